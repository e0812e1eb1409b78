/- Lemmas and contracts on the way to the statement; no condition of their own beyond those written. -/
import Derived.Test.YthehbckogieimaaXVztoWm
import Derived.Deep.CutRange
import Derived.Deep.CutBlock
import Derived.IntWalk
import Derived.Great.BuildSlice
import Derived.ArgAppend
import Derived.Laws.CopyOwn
import Derived.StillTailTactics
import Derived.Deep.MidRow
import Derived.WalkSpells
import Derived.WalkLawsBesides
import Derived.Maps.AppendAt
import Derived.OwnWalk
import Derived.OrdersHeld
import Derived.Deep.OwnRows
import Derived.WalkKit
import Derived.Lib.Hide
import Derived.Laws.OwnMore
import Derived.Test.YthehbckogieimaaProg
import Derived.Outline
import Derived.Deep.DeepFit
import Derived.BigQuiet
import Derived.Deep.QuietTactic
import Derived.Sort.OwnSortedInts
import Derived.WideMake
import Derived.MapKept
import Derived.ChangeMaps5
import Derived.Shelf.Sort.Plain
import Derived.RangeFuncBox
import Derived.RangeFuncLeaves
import Derived.Shelf.Abstract
import Derived.OwnWalkIn
import Derived.TacticsInMore
import Derived.LoopNIn
import Derived.LoopIn
import Derived.RangeFuncWrites
import Derived.RangeFuncNested
import Derived.Sort.CutIn
import Derived.Lib.ConvBytes
set_option linter.unusedVariables false
set_option linter.unusedSimpArgs false
set_option maxRecDepth 100000
set_option maxHeartbeats 8000000
namespace Go.Proofs.Ythehbckogieimaa
open Go.RowKit
open Go.Proofs
open Go.Proofs.Cm (Tr TabOk)
attribute [local irreducible] Go.Calls Go.wpList
theorem Wncl0 (args:Array Value) (w:World):(callFunc 79 args).run Try.prog w=.ok (.enter 79 args) w:=by kernel_rfl
theorem Wncl1 (args:Array Value) (w:World):(callFunc 70 args).run Try.prog w=.ok (.enter 70 args) w:=by kernel_rfl
theorem Wncl3 (args:Array Value) (w:World):(callFunc 52 args).run Try.prog w=.ok (.enter 52 args) w:=by kernel_rfl
theorem OwI.up {B:Nat} {W W':World} {v:Value} {l:List Int} (h:OwI B W v l) (hb:Below W.heap.size W W'):OwI B W' v l:=h.below hb
theorem OwI.at {B:Nat} {W:World} {a:Option Addr} {m c:Nat} {l:List Nat} (h:OwI B W (.slice a m c) (Ma.ofN l)) {k:Nat} (hk:k<l.length):∃ g,a=some ⟨g,0,none⟩∧CL W g (0+k) (.int .i64 ((l[k]:Nat):Int)):=by
 obtain ⟨g,c',u,e1,e2,e3,e4⟩:=row_of h.own (k:=k) (by rw [Ma.len_ofN]; exact hk)
 injection e1 with e1 _ _
 refine ⟨g,e1,?_,e4⟩;rw [e2,← e3];simp [Ma.ofN,List.getElem?_eq_getElem hk]
theorem tab_ge {n:Nat} {gs:List Nat→Prop} {tr:Tr} (h:TabOk n gs tr) {i p:Nat} {u:List Nat} (h1:tr i p=some u):i≤p:=by
 have hne:p≠i:=fun e=>by subst e; rw [h.diag] at h1; cases h1
 have hid:Cm.idT n tr i p=some u:=by rw [Cm.idT_ne hne]; exact h1
 have hi:=(h.lt i p u h1).1;have hp:=(h.lt i p u h1).2;refine Nat.le_of_not_lt fun hlt=>hne ?_;have a1:=h.rp.at_ i p u (Nat.zero_le _) hi hid;have a2:=h.rp.fx i p u (Nat.zero_le _) hi hid p hlt;exact Cm.ap_inj (h.rp.gd i p u (Nat.zero_le _) hi hid) hp hi (a2.trans a1.symm)
theorem mem_orbL {n:Nat} {gs:List Nat→Prop} {tr:Tr} (h:TabOk n gs tr) {i p:Nat} (hi:i<n):p∈orbL n tr i↔∃ u,Cm.idT n tr i p=some u:=by
 unfold orbL;rw [mem_orbP]
 constructor
 ·rintro ⟨h1,h2,h3⟩
  by_cases e:p=i
  ·subst e; exact ⟨_,Cm.idT_self⟩
  ·rw [Cm.idT_ne e]
   rcases h3 with h3 | h3
   ·exact absurd h3 e
   ·exact Option.isSome_iff_exists.1 h3
 ·rintro ⟨u,hu⟩
  by_cases e:p=i
  ·subst e; exact ⟨hi,Nat.le_refl _,.inl rfl⟩
  ·rw [Cm.idT_ne e] at hu
   exact ⟨(h.lt i p u hu).2,tab_ge h hu,.inr (by rw [hu]; rfl)⟩
def RLPost (w:World) (n i:Nat) (H:List Nat→Prop) (u:List Nat) (e:Ending) (w':World):Prop:=∃ v y B,e=.returned v∧w.heap.size≤B∧w'.ownsRow B 3 1 v (Ma.ofN y).length ((Ma.ofN y).map (Value.int .i64))∧Cm.LI H i n u y∧Cm.Gd n y∧Below w.heap.size w w'
theorem rleast_any {n:Nat} (hn1:1≤n) (hn2:n≤64) {F0:Nat→Prop} {tb tf tc:Nat} {w:World} {tr:Tr} {Rb:Nat→Nat} {V:Nat→Nat→Value} (hT:TabAt F0 tb tf n w tr Rb V) {gs:List Nat→Prop} (hg:∀ s,gs s→Cm.Gd n s) (hok:TabOk n gs tr) (htr:Cm.IsTr n (Cm.Gr n gs) (Cm.idT n tr)) {i p:Nat} (hi:i<n) {u:List Nat} (hu:Cm.idT n tr i p=some u) :
  Calls Try.prog 71 #[.slice (some ⟨tb,tf,none⟩) n tc,.int .i64 ((i:Nat):Int),.int .i64 ((p:Nat):Int)] w (RLPost w n i (Cm.Gr n gs) u):=by
 have HT:=ι hT;have HH:=ι (Cm.Gr.isG hg);have OK:=ι hok;have HTR:=ι htr;have HIN:=ι hi;have HU:=ι hu;have GU0:=ι (hok.rp.gd i p u (Nat.zero_le _) hi hu);have HLI:=ι (Cm.LI.start (Cm.Gr.isG hg) hi GU0.out);have CO:=ι (hT.out i hi);have K:=ι (KG.refl hT.Flt);have KB:=ι (Below.refl w.heap.size w)
 have hpn:p<n:=by
  by_cases e:p=i
  ·omega
  ·rw [Cm.idT_ne e] at hu; exact (hok.lt i p u hu).2
 have HPN:=ι hpn;have CE:=ι (CL.mk (show w.cell? ⟨Rb i,0+p,none⟩=some (V i p) by rw [Nat.zero_add]; exact hT.cell hi hpn) (hT.lt hi));clear hT hg hok htr hu
 go_enter Try.func71,Try.ntmps71
 go_upto_region 1 with (fail);refine Rg.wl ?_;refine Rg.lm 12 (.slice (some ⟨tb,tf,none⟩) n tc) ?_;go_frame;refine Rg.lr 13 (exec_len _ _ _ rfl Try.underlying80 _ _ _ rfl) ?_;go_frame;refine list_ask (some 14) rfl rfl _ _ (exec_fn1 79 _ _ rfl rfl (Wncl0 _ _)) ?_;refine (kitOne_any n w (by omega)).mono ?_;rintro e1 w1 ⟨ov,rfl,hov,hb⟩;replace KB:=ι (Rg.acc KB.out hb);refine ⟨_,rfl,?_⟩;go_frame;replace HT:=ι (HT.out.up hb);replace CO:=ι (CO.out.up hb);replace CE:=ι (CE.out.up hb);replace K:=ι (K.out.up hb);have XO:=ι (FP.new (F:=F0) hov);generalize Fup F0 w w1=F1 at *;clear hb;refine Rg.la 7 (ov) ?_;go_frame;clear hov
 by_cases hpi:p=i
 ·have hpiN:(p:Int)=(i:Int):=by omega
  have XV:=ι (show FP F1 w1 ov u by
   have:=HU.out;subst hpi;rw [Cm.idT_self] at this
   injection this with this
   rw [← this]; exact XO.out)
  clear hpi XO CO CE;go_upto_region 2 with (fail);refine Rg.wl ?_;refine Rg.lm 15 (.int .i64 ((p:Nat):Int)) ?_;go_frame;refine Rg.lm 16 (.int .i64 ((i:Nat):Int)) ?_;go_frame;refine Rg.lr 17 (exec_bin (R:=.bool false) .neq _ _ _ rfl rfl rfl (b_neqB _ (decide_eq_false (by omega)))) ?_;go_frame;go_wp2
  go_loopw [8,7] (fun kv yv wr=>∃ (k:Nat) (y:List Nat) (F1:Nat→Prop),kv=.int .i64 k∧i<k∧k≤n∧Hid (FP F1 wr yv y)∧Hid (TabAt F1 tb tf n wr tr Rb V)∧Hid (KG F0 w F1 wr)∧Hid (Below w.heap.size w wr)∧Hid (Cm.Gd n y)∧Hid (Cm.LI (Cm.Gr n gs) i k u y)) (fun kv _ _=>n - (intOf kv).toNat)
  case atStart=>exact ⟨i+1,u,_,by go_num,Nat.lt_succ_self _,HIN.out,XV,HT,K,KB,GU0,HLI⟩
  case round =>
   clear XV HT K KB HLI;obtain ⟨k,y,F,rfl,hk1,hk2,X,HT,K,KB,GY,HLI⟩:=hrel;obtain ⟨yb,yo,yc,rfl⟩:=X.out.shape' GY.out hn1
   by_cases hkl:k<n
   ·have hkN:(k:Int)<(n:Int):=by omega
    have HKL:=ι hkl;go_upto_region 7 with (fail);refine Rg.wl ?_;refine Rg.lm 33 (.slice (some ⟨tb,tf,none⟩) n tc) ?_;go_frame;refine Rg.lm 34 (.int .i64 ((k:Nat):Int)) ?_;go_frame;refine list_ask (some 35) rfl rfl _ _ (exec_fn 70 _ _ _ rfl rfl rfl (Wncl1 _ _)) ?_;refine (orbit_any hn1 hn2 HT.out (fun i p u e=>tab_gd OK.out e) HKL.out).mono ?_;rintro e1 w1 ⟨ov2,rfl,hov,hb⟩;replace KB:=ι (Rg.acc KB.out hb);refine ⟨_,rfl,?_⟩;go_frame;replace HT:=ι (HT.out.up hb);replace X:=ι (X.out.up hb);replace K:=ι (K.out.up hb);have RO:=ι hov;generalize Fup F wr w1=F1 at *;clear hb;refine Rg.la 9 (ov2) ?_;go_frame;clear hov;obtain ⟨oa,oc,hsh⟩:=RO.out.shape;rw [Ma.len_ofN] at hsh;subst hsh;have HOM:=ι (fun q=>mem_orbL (p:=q) OK.out HKL.out);have HOL:=ι (orbP_len tr k n);obtain ⟨O,hO⟩:∃ O,Hid (orbL n tr k=O):=⟨_,ι rfl⟩;have hOl:=HOL.out;rw [show orbP tr k n=O from hO.out] at hOl
    replace HOL:=ι hOl;rw [hO.out] at RO HOM ⊢;obtain ⟨B9,hB9⟩:∃ B,Hid (wr.heap.size=B):=⟨_,ι rfl⟩;rw [hB9.out] at RO;clear hOl hO hB9;have HK0:=ι (show ∀ m (h:m<O.length),m<0→Cm.ap y k≤Cm.ap y O[m] from fun m _ h=>absurd h (Nat.not_lt_zero _));have HBK:=ι (show ∃ v,Cm.idT n tr k k=some v from ⟨_,Cm.idT_self⟩);go_wp2
    go_loopw [10,11] (fun bv iv wr=>∃ (b m:Nat) (F1:Nat→Prop),bv=.int .i64 b∧iv=.int .i64 m∧m≤O.length∧b<n∧Hid (FP F1 wr (.slice (some ⟨yb,yo,none⟩) n yc) y)∧Hid (TabAt F1 tb tf n wr tr Rb V)∧Hid (OwI B9 wr (.slice oa O.length oc) (Ma.ofN O))∧Hid (KG F0 w F1 wr)∧Hid (Below w.heap.size w wr)∧Hid (∃ v,Cm.idT n tr k b=some v)∧Hid (∀ m' (h:m' < O.length),m' < m→Cm.ap y b≤Cm.ap y O[m'])) (fun _ iv _=>O.length - (intOf iv).toNat)
    case atStart=>exact ⟨k,0,_,rfl,rfl,Nat.zero_le _,HKL.out,X,HT,RO,K,KB,HBK,HK0⟩
    case round =>
     clear X HT RO K KB HBK HK0;obtain ⟨b,m,F,rfl,rfl,hm,hbn,X,HT,RO,K,KB,HBK,HK0⟩:=hrel
     have hoN:(O.length:Int)≤64:=by have:=HOL.out; omega
     by_cases hml:m<O.length
     ·have hmN:(m:Int)<(O.length:Int):=by omega
      obtain ⟨og,rfl,hcq⟩:=RO.out.at hml;obtain ⟨q,hq⟩:∃ q:Nat,Hid (q=O[m]):=⟨_,ι rfl⟩;rw [← hq.out] at hcq;have CQ:=ι hcq;have HML:=ι hml;have HBN:=ι hbn;have HQR:=ι ((HOM.out q).1 (by rw [hq.out]; exact List.getElem_mem hml))
      have hqn:q<n:=by
       obtain ⟨v,hv⟩:=HQR.out
       by_cases e:q=k
       ·have:=HKL.out; omega
       ·rw [Cm.idT_ne e] at hv; exact (OK.out.lt k q v hv).2
      have HQN:=ι hqn;have CXq:=ι (X.out.ap GY.out hqn);have CXb:=ι (X.out.ap GY.out hbn);obtain ⟨yq,hyq⟩:∃ z:Nat,Hid (z=Cm.ap y q):=⟨_,ι rfl⟩;obtain ⟨yb',hyb⟩:∃ z:Nat,Hid (z=Cm.ap y b):=⟨_,ι rfl⟩;rw [← hyq.out] at CXq;rw [← hyb.out] at CXb;clear hcq hqn hbn hm
      by_cases hlt:yq<yb'
      ·have hltN:(yq:Int)<(yb':Int):=by omega
       go_upto_region 12 with (fail);have hV1:Below wr.heap.size wr wr.drew:=(Below.refl _ _).drew;replace KB:=ι (Rg.acc KB.out hV1);clear hV1;have hV0:Below wr.heap.size wr wr.drew:=(Below.refl _ _).drew;replace HT:=ι (HT.out.up hV0);replace X:=ι (X.out.up hV0);replace RO:=ι (RO.out.up hV0);replace CQ:=ι (CQ.out.up hV0);replace CXq:=ι (CXq.out.up hV0);replace CXb:=ι (CXb.out.up hV0);replace K:=ι (K.out.up hV0);generalize Fup F wr wr.drew=F1 at *;clear hV0;refine Rg.Any.begin (S:=Rg.Both 11 (fun _=>True) (fun W=>Below wr.drew.heap.size wr.drew W)) mix ?_;generalize wr.drew=w1 at *;have hS:∀ (l:Array Bool) W,Below w1.heap.size w1 W→Rg.Both 11 (fun _=>True) (fun W=>Below w1.heap.size w1 W) l W:=fun l W h=>⟨.inr trivial,h⟩;have hI:Below w1.heap.size w1 w1:=Below.refl _ _;refine Rg.tm 0 11 (.slice (some ⟨yb,yo,none⟩) n yc) 43 (hS _ _ hI) ?_;go_frame
       refine Rg.tm 1 11 (.slice (some ⟨og,0,none⟩) O.length oc) 44 (hS _ _ hI) ?_;go_frame;refine Rg.tm 2 11 (.int .i64 ((m:Nat):Int)) 45 (hS _ _ hI) ?_;go_frame;refine Rg.tg 3 11 (.pointer (some ⟨og,0+m,none⟩)) 46 rfl rfl (Rg.yields_index slInts _ _ rfl rfl og (0) (O.length) oc (m) rfl rfl HML.out) (hS _ _ hI) ?_;go_frame;refine Rg.tg 4 11 (.int .i64 ((q:Nat):Int)) 47 rfl rfl (Rg.yields_cell _ _ rfl rfl ⟨og,0+m,none⟩ rfl (fun W hW=>run_loadInt ((Below.cell (p:=⟨og,0+m,none⟩) hW CQ.out.lt).trans CQ.out.cell))) (hS _ _ hI) ?_;go_frame;refine Rg.tg 5 11 (.pointer (some ⟨yb,yo+q,none⟩)) 48 rfl rfl (Rg.yields_index slPerm _ _ rfl rfl yb (yo) (n) yc (q) rfl rfl HQN.out) (hS _ _ hI) ?_;go_frame;refine Rg.tg 6 11 (.int .i64 ((yq:Nat):Int)) 49 rfl rfl (Rg.yields_cell _ _ rfl rfl ⟨yb,yo+q,none⟩ rfl (fun W hW=>run_loadInt ((Below.cell (p:=⟨yb,yo+q,none⟩) hW CXq.out.lt).trans CXq.out.cell))) (hS _ _ hI) ?_;go_frame
       refine Rg.tm 7 11 (.slice (some ⟨yb,yo,none⟩) n yc) 50 (hS _ _ hI) ?_;go_frame;refine Rg.tm 8 11 (.int .i64 ((b:Nat):Int)) 51 (hS _ _ hI) ?_;go_frame;refine Rg.tg 9 11 (.pointer (some ⟨yb,yo+b,none⟩)) 52 rfl rfl (Rg.yields_index slPerm _ _ rfl rfl yb (yo) (n) yc (b) rfl rfl HBN.out) (hS _ _ hI) ?_;go_frame;refine Rg.tg 10 11 (.int .i64 ((yb':Nat):Int)) 53 rfl rfl (Rg.yields_cell _ _ rfl rfl ⟨yb,yo+b,none⟩ rfl (fun W hW=>run_loadInt ((Below.cell (p:=⟨yb,yo+b,none⟩) hW CXb.out.lt).trans CXb.out.cell))) (hS _ _ hI) ?_;go_frame;refine Rg.Any.one (i:=11) (by kernel_rfl) (Rg.Any.run (some 54) rfl rfl rfl (exec_bin (R:=.bool true) .lss _ _ _ rfl rfl rfl (b_lss _ (decide_eq_true (by omega)))) (hS _ _ hI) ?_);go_frame;refine Rg.Any.done (by kernel_rfl) ?_ _;clear hS hI;go_upto_region 13 with (fail);refine Rg.wl ?_;refine Rg.lm 55 (.slice (some ⟨og,0,none⟩) O.length oc) ?_;go_frame
       refine Rg.lm 56 (.int .i64 ((m:Nat):Int)) ?_;go_frame;refine Rg.lr 57 (exec_indexS slInts _ _ rfl og (0) (O.length) oc (m) rfl rfl HML.out) ?_;go_frame;refine Rg.lr 58 (Rg.exec_load (v:=.int .i64 ((q:Nat):Int)) _ _ rfl ⟨og,0+m,none⟩ rfl (run_loadInt CQ.out.cell)) ?_;go_frame;refine Rg.la 10 (.int .i64 ((q:Nat):Int)) ?_;go_frame
       have HK1:=ι (show ∀ m' (h:m' < O.length),m' < m+1→Cm.ap y q≤Cm.ap y O[m'] from fun m' h h2=>by
        have a1:=hyq.out;have a2:=hyb.out
        by_cases e:m'=m
        ·subst e
         rw [← hq.out]; omega
        ·have:=HK0.out m' h (by omega)
         omega)
       go_wp2
       go_roundw
       case rel=>exact ⟨q,m+1,_,rfl,by go_num,HML.out,HQN.out,X,HT,RO,K,KB,HQR,HK1⟩
       case measure=>simp [intOf]; have:=HML.out; omega
      ·have hltN:¬ (yq:Int)<(yb':Int):=by omega
       go_upto_region 12 with (fail);have hV1:Below wr.heap.size wr wr.drew:=(Below.refl _ _).drew;replace KB:=ι (Rg.acc KB.out hV1);clear hV1;have hV0:Below wr.heap.size wr wr.drew:=(Below.refl _ _).drew;replace HT:=ι (HT.out.up hV0);replace X:=ι (X.out.up hV0);replace RO:=ι (RO.out.up hV0);replace CQ:=ι (CQ.out.up hV0);replace CXq:=ι (CXq.out.up hV0);replace CXb:=ι (CXb.out.up hV0);replace K:=ι (K.out.up hV0);generalize Fup F wr wr.drew=F1 at *;clear hV0;refine Rg.Any.begin (S:=Rg.Both 11 (fun _=>True) (fun W=>Below wr.drew.heap.size wr.drew W)) mix ?_;generalize wr.drew=w1 at *;have hS:∀ (l:Array Bool) W,Below w1.heap.size w1 W→Rg.Both 11 (fun _=>True) (fun W=>Below w1.heap.size w1 W) l W:=fun l W h=>⟨.inr trivial,h⟩;have hI:Below w1.heap.size w1 w1:=Below.refl _ _;refine Rg.tm 0 11 (.slice (some ⟨yb,yo,none⟩) n yc) 43 (hS _ _ hI) ?_;go_frame
       refine Rg.tm 1 11 (.slice (some ⟨og,0,none⟩) O.length oc) 44 (hS _ _ hI) ?_;go_frame;refine Rg.tm 2 11 (.int .i64 ((m:Nat):Int)) 45 (hS _ _ hI) ?_;go_frame;refine Rg.tg 3 11 (.pointer (some ⟨og,0+m,none⟩)) 46 rfl rfl (Rg.yields_index slInts _ _ rfl rfl og (0) (O.length) oc (m) rfl rfl HML.out) (hS _ _ hI) ?_;go_frame;refine Rg.tg 4 11 (.int .i64 ((q:Nat):Int)) 47 rfl rfl (Rg.yields_cell _ _ rfl rfl ⟨og,0+m,none⟩ rfl (fun W hW=>run_loadInt ((Below.cell (p:=⟨og,0+m,none⟩) hW CQ.out.lt).trans CQ.out.cell))) (hS _ _ hI) ?_;go_frame;refine Rg.tg 5 11 (.pointer (some ⟨yb,yo+q,none⟩)) 48 rfl rfl (Rg.yields_index slPerm _ _ rfl rfl yb (yo) (n) yc (q) rfl rfl HQN.out) (hS _ _ hI) ?_;go_frame;refine Rg.tg 6 11 (.int .i64 ((yq:Nat):Int)) 49 rfl rfl (Rg.yields_cell _ _ rfl rfl ⟨yb,yo+q,none⟩ rfl (fun W hW=>run_loadInt ((Below.cell (p:=⟨yb,yo+q,none⟩) hW CXq.out.lt).trans CXq.out.cell))) (hS _ _ hI) ?_;go_frame
       refine Rg.tm 7 11 (.slice (some ⟨yb,yo,none⟩) n yc) 50 (hS _ _ hI) ?_;go_frame;refine Rg.tm 8 11 (.int .i64 ((b:Nat):Int)) 51 (hS _ _ hI) ?_;go_frame;refine Rg.tg 9 11 (.pointer (some ⟨yb,yo+b,none⟩)) 52 rfl rfl (Rg.yields_index slPerm _ _ rfl rfl yb (yo) (n) yc (b) rfl rfl HBN.out) (hS _ _ hI) ?_;go_frame;refine Rg.tg 10 11 (.int .i64 ((yb':Nat):Int)) 53 rfl rfl (Rg.yields_cell _ _ rfl rfl ⟨yb,yo+b,none⟩ rfl (fun W hW=>run_loadInt ((Below.cell (p:=⟨yb,yo+b,none⟩) hW CXb.out.lt).trans CXb.out.cell))) (hS _ _ hI) ?_;go_frame;refine Rg.Any.one (i:=11) (by kernel_rfl) (Rg.Any.run (some 54) rfl rfl rfl (exec_bin (R:=.bool false) .lss _ _ _ rfl rfl rfl (b_lss _ (decide_eq_false (by omega)))) (hS _ _ hI) ?_);go_frame;refine Rg.Any.done (by kernel_rfl) ?_ _;clear hS hI
       have HK1:=ι (show ∀ m' (h:m' < O.length),m' < m+1→Cm.ap y b≤Cm.ap y O[m'] from fun m' h h2=>by
        have a1:=hyq.out;have a2:=hyb.out
        by_cases e:m'=m
        ·subst e
         rw [← hq.out]; omega
        ·have:=HK0.out m' h (by omega)
         omega)
       go_wp2
       go_roundw
       case rel=>exact ⟨b,m+1,_,rfl,by go_num,HML.out,HBN.out,X,HT,RO,K,KB,HBK,HK1⟩
       case measure=>simp [intOf]; have:=HML.out; omega
     ·obtain rfl:m=O.length:=by omega
      have hmN:¬ (O.length:Int)<(O.length:Int):=by omega
      have HALL:=ι (show ∀ q',Cm.idT n tr k q'≠none→Cm.ap y b≤Cm.ap y q' from fun q' hq'=>by
       obtain ⟨v,hv⟩:=Option.ne_none_iff_exists'.1 hq';obtain ⟨m',hm',rfl⟩:=List.getElem_of_mem ((HOM.out q').2 ⟨v,hv⟩)
       exact HK0.out m' hm' hm')
      obtain ⟨v,hv⟩:=HBK.out;have HST:=ι (Cm.LI.step HH.out HTR.out GU0.out hk1 HKL.out HLI.out hv HALL.out);have GV:=ι (OK.out.rp.gd k b v (Nat.zero_le _) HKL.out hv);have GM:=ι (Cm.gd_mul GV.out GY.out);clear HALL HK0 HBK
      by_cases hbk:b=k
      ·have hbN:(b:Int)=(k:Int):=by omega
       have HE:=ι (show Ma.mulN v y=y by
        subst hbk;rw [Cm.idT_self] at hv
        injection hv with e
        rw [← e,Cm.one_mul GY.out])
       clear hbk hv;go_upto_region 14 with (fail);refine Rg.wl ?_;refine Rg.lm 59 (.int .i64 ((b:Nat):Int)) ?_;go_frame;refine Rg.lm 60 (.int .i64 ((k:Nat):Int)) ?_;go_frame;refine Rg.lr 61 (exec_bin (R:=.bool false) .neq _ _ _ rfl rfl rfl (b_neqB _ (decide_eq_false (by omega)))) ?_;go_frame;go_wp2
       go_roundw
       case rel=>exact ⟨k+1,y,_,by go_num,by omega,HKL.out,X,HT,K,KB,GY,ι (by have:=HST.out; rwa [HE.out] at this)⟩
       case measure=>simp [intOf]; have:=HKL.out; omega
      ·have hbN:¬ (b:Int)=(k:Int):=by omega
       rw [Cm.idT_ne hbk] at hv;have HBN:=ι hbn;have UP:=ι (HT.out.some_ k b v HKL.out hbn hv);have CO:=ι (HT.out.out k HKL.out);have CE:=ι (CL.mk (show wr.cell? ⟨Rb k,0+b,none⟩=some (V k b) by rw [Nat.zero_add]; exact HT.out.cell HKL.out hbn) (HT.out.lt HKL.out));clear hbk hv;go_upto_region 14 with (fail);refine Rg.wl ?_;refine Rg.lm 59 (.int .i64 ((b:Nat):Int)) ?_;go_frame;refine Rg.lm 60 (.int .i64 ((k:Nat):Int)) ?_;go_frame;refine Rg.lr 61 (exec_bin (R:=.bool true) .neq _ _ _ rfl rfl rfl (b_neqB _ (decide_eq_true (by omega)))) ?_;go_frame;go_upto_region 15 with (fail);refine Rg.wl ?_;refine Rg.lm 62 (.slice (some ⟨tb,tf,none⟩) n tc) ?_;go_frame;refine Rg.lm 63 (.int .i64 ((k:Nat):Int)) ?_;go_frame;refine Rg.lr 64 (exec_indexS slTable _ _ rfl tb (tf) (n) tc (k) rfl rfl HKL.out) ?_;go_frame;refine Rg.lr 65 (Rg.exec_load (v:=.slice (some ⟨(Rb k),0,none⟩) n n) _ _ rfl ⟨tb,tf+k,none⟩ rfl (Rg.run_loadSl _ _ Try.underlying22 CO.out.cell)) ?_;go_frame
       refine Rg.lm 66 (.int .i64 ((b:Nat):Int)) ?_;go_frame;refine Rg.lr 67 (exec_indexS slPerms _ _ rfl (Rb k) (0) (n) n (b) rfl rfl HBN.out) ?_;go_frame;refine Rg.lr 68 (Rg.exec_load (v:=(V k b)) _ _ rfl ⟨(Rb k),0+b,none⟩ rfl (Rg.run_loadSl _ _ Try.underlying39 CE.out.cell)) ?_;go_frame;refine Rg.lm 69 (.slice (some ⟨yb,yo,none⟩) n yc) ?_;go_frame;refine list_ask (some 70) rfl rfl _ _ (exec_fn 66 _ _ _ rfl rfl rfl (Wfcl1 _ _)) ?_;refine (kMul_f UP.out X.out GV.out GY.out hn2).mono ?_;rintro e1 w1 ⟨mv,rfl,hmv,hb⟩;replace KB:=ι (Rg.acc KB.out hb);refine ⟨_,rfl,?_⟩;go_frame;replace HT:=ι (HT.out.up hb);replace X:=ι (X.out.up hb);replace UP:=ι (UP.out.up hb);replace CO:=ι (CO.out.up hb);replace CE:=ι (CE.out.up hb);replace K:=ι (K.out.up hb);have MV:=ι hmv;generalize Fup F wr w1=F1 at *;clear hb;refine Rg.la 7 (mv) ?_;go_frame;clear hmv;go_wp2
       go_roundw
       case rel=>exact ⟨k+1,_,_,by go_num,by omega,HKL.out,MV,HT,K,KB,GM,HST⟩
       case measure=>simp [intOf]; have:=HKL.out; omega
   ·obtain rfl:k=n:=by omega
    have hkN:¬ (k:Int)<(k:Int):=by omega
    have HSZ:=ι KB.out.size;go_upto_region 16 with (fail);refine Rg.wl ?_;refine Rg.lm 71 (.slice (some ⟨yb,yo,none⟩) k yc) ?_;go_frame;refine list_ask (some 72) rfl rfl _ _ (exec_fn1 52 _ _ rfl rfl (Wncl3 _ _)) ?_;refine (Own_any _ (Ma.ofN y) wr X.out.np (by rw [Ma.len_ofN,GY.out.2]; omega)).mono ?_;rintro e1 w1 ⟨v2,rfl,hrow,hb⟩;replace KB:=ι (Rg.acc KB.out hb);have HROW:=ι hrow;clear hrow;refine ⟨_,rfl,?_⟩;go_frame;replace HT:=ι (HT.out.up hb);replace X:=ι (X.out.up hb);replace K:=ι (K.out.up hb);generalize Fup F wr w1=F1 at *;clear hb;refine Rg.la 6 (v2) ?_;go_frame;go_wp2;go_ret;exact (show RLPost _ _ _ _ _ _ _ from ⟨_,_,_,rfl,HSZ.out,HROW.out,HLI.out,GY.out,KB.out⟩)
 ·have hpiN:¬ (p:Int)=(i:Int):=by omega
  have XV:=ι (HT.out.some_ i p u HIN.out HPN.out (by have:=HU.out; rwa [Cm.idT_ne hpi] at this));clear hpi XO;go_upto_region 2 with (fail);refine Rg.wl ?_;refine Rg.lm 15 (.int .i64 ((p:Nat):Int)) ?_;go_frame;refine Rg.lm 16 (.int .i64 ((i:Nat):Int)) ?_;go_frame;refine Rg.lr 17 (exec_bin (R:=.bool true) .neq _ _ _ rfl rfl rfl (b_neqB _ (decide_eq_true (by omega)))) ?_;go_frame;go_upto_region 3 with (fail);refine Rg.wl ?_;refine Rg.lm 18 (.slice (some ⟨tb,tf,none⟩) n tc) ?_;go_frame;refine Rg.lm 19 (.int .i64 ((i:Nat):Int)) ?_;go_frame;refine Rg.lr 20 (exec_indexS slTable _ _ rfl tb (tf) (n) tc (i) rfl rfl HIN.out) ?_;go_frame;refine Rg.lr 21 (Rg.exec_load (v:=.slice (some ⟨(Rb i),0,none⟩) n n) _ _ rfl ⟨tb,tf+i,none⟩ rfl (Rg.run_loadSl _ _ Try.underlying22 CO.out.cell)) ?_;go_frame;refine Rg.lm 22 (.int .i64 ((p:Nat):Int)) ?_;go_frame;refine Rg.lr 23 (exec_indexS slPerms _ _ rfl (Rb i) (0) (n) n (p) rfl rfl HPN.out) ?_;go_frame
  refine Rg.lr 24 (Rg.exec_load (v:=(V i p)) _ _ rfl ⟨(Rb i),0+p,none⟩ rfl (Rg.run_loadSl _ _ Try.underlying39 CE.out.cell)) ?_;go_frame;refine Rg.la 7 ((V i p)) ?_;go_frame;clear CO CE;go_wp2
  go_loopw [8,7] (fun kv yv wr=>∃ (k:Nat) (y:List Nat) (F1:Nat→Prop),kv=.int .i64 k∧i<k∧k≤n∧Hid (FP F1 wr yv y)∧Hid (TabAt F1 tb tf n wr tr Rb V)∧Hid (KG F0 w F1 wr)∧Hid (Below w.heap.size w wr)∧Hid (Cm.Gd n y)∧Hid (Cm.LI (Cm.Gr n gs) i k u y)) (fun kv _ _=>n - (intOf kv).toNat)
  case atStart=>exact ⟨i+1,u,_,by go_num,Nat.lt_succ_self _,HIN.out,XV,HT,K,KB,GU0,HLI⟩
  case round =>
   clear XV HT K KB HLI;obtain ⟨k,y,F,rfl,hk1,hk2,X,HT,K,KB,GY,HLI⟩:=hrel;obtain ⟨yb,yo,yc,rfl⟩:=X.out.shape' GY.out hn1
   by_cases hkl:k<n
   ·have hkN:(k:Int)<(n:Int):=by omega
    have HKL:=ι hkl;go_upto_region 7 with (fail);refine Rg.wl ?_;refine Rg.lm 33 (.slice (some ⟨tb,tf,none⟩) n tc) ?_;go_frame;refine Rg.lm 34 (.int .i64 ((k:Nat):Int)) ?_;go_frame;refine list_ask (some 35) rfl rfl _ _ (exec_fn 70 _ _ _ rfl rfl rfl (Wncl1 _ _)) ?_;refine (orbit_any hn1 hn2 HT.out (fun i p u e=>tab_gd OK.out e) HKL.out).mono ?_;rintro e1 w1 ⟨ov2,rfl,hov,hb⟩;replace KB:=ι (Rg.acc KB.out hb);refine ⟨_,rfl,?_⟩;go_frame;replace HT:=ι (HT.out.up hb);replace X:=ι (X.out.up hb);replace K:=ι (K.out.up hb);have RO:=ι hov;generalize Fup F wr w1=F1 at *;clear hb;refine Rg.la 9 (ov2) ?_;go_frame;clear hov;obtain ⟨oa,oc,hsh⟩:=RO.out.shape;rw [Ma.len_ofN] at hsh;subst hsh;have HOM:=ι (fun q=>mem_orbL (p:=q) OK.out HKL.out);have HOL:=ι (orbP_len tr k n);obtain ⟨O,hO⟩:∃ O,Hid (orbL n tr k=O):=⟨_,ι rfl⟩;have hOl:=HOL.out;rw [show orbP tr k n=O from hO.out] at hOl
    replace HOL:=ι hOl;rw [hO.out] at RO HOM ⊢;obtain ⟨B9,hB9⟩:∃ B,Hid (wr.heap.size=B):=⟨_,ι rfl⟩;rw [hB9.out] at RO;clear hOl hO hB9;have HK0:=ι (show ∀ m (h:m<O.length),m<0→Cm.ap y k≤Cm.ap y O[m] from fun m _ h=>absurd h (Nat.not_lt_zero _));have HBK:=ι (show ∃ v,Cm.idT n tr k k=some v from ⟨_,Cm.idT_self⟩);go_wp2
    go_loopw [10,11] (fun bv iv wr=>∃ (b m:Nat) (F1:Nat→Prop),bv=.int .i64 b∧iv=.int .i64 m∧m≤O.length∧b<n∧Hid (FP F1 wr (.slice (some ⟨yb,yo,none⟩) n yc) y)∧Hid (TabAt F1 tb tf n wr tr Rb V)∧Hid (OwI B9 wr (.slice oa O.length oc) (Ma.ofN O))∧Hid (KG F0 w F1 wr)∧Hid (Below w.heap.size w wr)∧Hid (∃ v,Cm.idT n tr k b=some v)∧Hid (∀ m' (h:m' < O.length),m' < m→Cm.ap y b≤Cm.ap y O[m'])) (fun _ iv _=>O.length - (intOf iv).toNat)
    case atStart=>exact ⟨k,0,_,rfl,rfl,Nat.zero_le _,HKL.out,X,HT,RO,K,KB,HBK,HK0⟩
    case round =>
     clear X HT RO K KB HBK HK0;obtain ⟨b,m,F,rfl,rfl,hm,hbn,X,HT,RO,K,KB,HBK,HK0⟩:=hrel
     have hoN:(O.length:Int)≤64:=by have:=HOL.out; omega
     by_cases hml:m<O.length
     ·have hmN:(m:Int)<(O.length:Int):=by omega
      obtain ⟨og,rfl,hcq⟩:=RO.out.at hml;obtain ⟨q,hq⟩:∃ q:Nat,Hid (q=O[m]):=⟨_,ι rfl⟩;rw [← hq.out] at hcq;have CQ:=ι hcq;have HML:=ι hml;have HBN:=ι hbn;have HQR:=ι ((HOM.out q).1 (by rw [hq.out]; exact List.getElem_mem hml))
      have hqn:q<n:=by
       obtain ⟨v,hv⟩:=HQR.out
       by_cases e:q=k
       ·have:=HKL.out; omega
       ·rw [Cm.idT_ne e] at hv; exact (OK.out.lt k q v hv).2
      have HQN:=ι hqn;have CXq:=ι (X.out.ap GY.out hqn);have CXb:=ι (X.out.ap GY.out hbn);obtain ⟨yq,hyq⟩:∃ z:Nat,Hid (z=Cm.ap y q):=⟨_,ι rfl⟩;obtain ⟨yb',hyb⟩:∃ z:Nat,Hid (z=Cm.ap y b):=⟨_,ι rfl⟩;rw [← hyq.out] at CXq;rw [← hyb.out] at CXb;clear hcq hqn hbn hm
      by_cases hlt:yq<yb'
      ·have hltN:(yq:Int)<(yb':Int):=by omega
       go_upto_region 12 with (fail);have hV1:Below wr.heap.size wr wr.drew:=(Below.refl _ _).drew;replace KB:=ι (Rg.acc KB.out hV1);clear hV1;have hV0:Below wr.heap.size wr wr.drew:=(Below.refl _ _).drew;replace HT:=ι (HT.out.up hV0);replace X:=ι (X.out.up hV0);replace RO:=ι (RO.out.up hV0);replace CQ:=ι (CQ.out.up hV0);replace CXq:=ι (CXq.out.up hV0);replace CXb:=ι (CXb.out.up hV0);replace K:=ι (K.out.up hV0);generalize Fup F wr wr.drew=F1 at *;clear hV0;refine Rg.Any.begin (S:=Rg.Both 11 (fun _=>True) (fun W=>Below wr.drew.heap.size wr.drew W)) mix ?_;generalize wr.drew=w1 at *;have hS:∀ (l:Array Bool) W,Below w1.heap.size w1 W→Rg.Both 11 (fun _=>True) (fun W=>Below w1.heap.size w1 W) l W:=fun l W h=>⟨.inr trivial,h⟩;have hI:Below w1.heap.size w1 w1:=Below.refl _ _;refine Rg.tm 0 11 (.slice (some ⟨yb,yo,none⟩) n yc) 43 (hS _ _ hI) ?_;go_frame
       refine Rg.tm 1 11 (.slice (some ⟨og,0,none⟩) O.length oc) 44 (hS _ _ hI) ?_;go_frame;refine Rg.tm 2 11 (.int .i64 ((m:Nat):Int)) 45 (hS _ _ hI) ?_;go_frame;refine Rg.tg 3 11 (.pointer (some ⟨og,0+m,none⟩)) 46 rfl rfl (Rg.yields_index slInts _ _ rfl rfl og (0) (O.length) oc (m) rfl rfl HML.out) (hS _ _ hI) ?_;go_frame;refine Rg.tg 4 11 (.int .i64 ((q:Nat):Int)) 47 rfl rfl (Rg.yields_cell _ _ rfl rfl ⟨og,0+m,none⟩ rfl (fun W hW=>run_loadInt ((Below.cell (p:=⟨og,0+m,none⟩) hW CQ.out.lt).trans CQ.out.cell))) (hS _ _ hI) ?_;go_frame;refine Rg.tg 5 11 (.pointer (some ⟨yb,yo+q,none⟩)) 48 rfl rfl (Rg.yields_index slPerm _ _ rfl rfl yb (yo) (n) yc (q) rfl rfl HQN.out) (hS _ _ hI) ?_;go_frame;refine Rg.tg 6 11 (.int .i64 ((yq:Nat):Int)) 49 rfl rfl (Rg.yields_cell _ _ rfl rfl ⟨yb,yo+q,none⟩ rfl (fun W hW=>run_loadInt ((Below.cell (p:=⟨yb,yo+q,none⟩) hW CXq.out.lt).trans CXq.out.cell))) (hS _ _ hI) ?_;go_frame
       refine Rg.tm 7 11 (.slice (some ⟨yb,yo,none⟩) n yc) 50 (hS _ _ hI) ?_;go_frame;refine Rg.tm 8 11 (.int .i64 ((b:Nat):Int)) 51 (hS _ _ hI) ?_;go_frame;refine Rg.tg 9 11 (.pointer (some ⟨yb,yo+b,none⟩)) 52 rfl rfl (Rg.yields_index slPerm _ _ rfl rfl yb (yo) (n) yc (b) rfl rfl HBN.out) (hS _ _ hI) ?_;go_frame;refine Rg.tg 10 11 (.int .i64 ((yb':Nat):Int)) 53 rfl rfl (Rg.yields_cell _ _ rfl rfl ⟨yb,yo+b,none⟩ rfl (fun W hW=>run_loadInt ((Below.cell (p:=⟨yb,yo+b,none⟩) hW CXb.out.lt).trans CXb.out.cell))) (hS _ _ hI) ?_;go_frame;refine Rg.Any.one (i:=11) (by kernel_rfl) (Rg.Any.run (some 54) rfl rfl rfl (exec_bin (R:=.bool true) .lss _ _ _ rfl rfl rfl (b_lss _ (decide_eq_true (by omega)))) (hS _ _ hI) ?_);go_frame;refine Rg.Any.done (by kernel_rfl) ?_ _;clear hS hI;go_upto_region 13 with (fail);refine Rg.wl ?_;refine Rg.lm 55 (.slice (some ⟨og,0,none⟩) O.length oc) ?_;go_frame
       refine Rg.lm 56 (.int .i64 ((m:Nat):Int)) ?_;go_frame;refine Rg.lr 57 (exec_indexS slInts _ _ rfl og (0) (O.length) oc (m) rfl rfl HML.out) ?_;go_frame;refine Rg.lr 58 (Rg.exec_load (v:=.int .i64 ((q:Nat):Int)) _ _ rfl ⟨og,0+m,none⟩ rfl (run_loadInt CQ.out.cell)) ?_;go_frame;refine Rg.la 10 (.int .i64 ((q:Nat):Int)) ?_;go_frame
       have HK1:=ι (show ∀ m' (h:m' < O.length),m' < m+1→Cm.ap y q≤Cm.ap y O[m'] from fun m' h h2=>by
        have a1:=hyq.out;have a2:=hyb.out
        by_cases e:m'=m
        ·subst e
         rw [← hq.out]; omega
        ·have:=HK0.out m' h (by omega)
         omega)
       go_wp2
       go_roundw
       case rel=>exact ⟨q,m+1,_,rfl,by go_num,HML.out,HQN.out,X,HT,RO,K,KB,HQR,HK1⟩
       case measure=>simp [intOf]; have:=HML.out; omega
      ·have hltN:¬ (yq:Int)<(yb':Int):=by omega
       go_upto_region 12 with (fail);have hV1:Below wr.heap.size wr wr.drew:=(Below.refl _ _).drew;replace KB:=ι (Rg.acc KB.out hV1);clear hV1;have hV0:Below wr.heap.size wr wr.drew:=(Below.refl _ _).drew;replace HT:=ι (HT.out.up hV0);replace X:=ι (X.out.up hV0);replace RO:=ι (RO.out.up hV0);replace CQ:=ι (CQ.out.up hV0);replace CXq:=ι (CXq.out.up hV0);replace CXb:=ι (CXb.out.up hV0);replace K:=ι (K.out.up hV0);generalize Fup F wr wr.drew=F1 at *;clear hV0;refine Rg.Any.begin (S:=Rg.Both 11 (fun _=>True) (fun W=>Below wr.drew.heap.size wr.drew W)) mix ?_;generalize wr.drew=w1 at *;have hS:∀ (l:Array Bool) W,Below w1.heap.size w1 W→Rg.Both 11 (fun _=>True) (fun W=>Below w1.heap.size w1 W) l W:=fun l W h=>⟨.inr trivial,h⟩;have hI:Below w1.heap.size w1 w1:=Below.refl _ _;refine Rg.tm 0 11 (.slice (some ⟨yb,yo,none⟩) n yc) 43 (hS _ _ hI) ?_;go_frame
       refine Rg.tm 1 11 (.slice (some ⟨og,0,none⟩) O.length oc) 44 (hS _ _ hI) ?_;go_frame;refine Rg.tm 2 11 (.int .i64 ((m:Nat):Int)) 45 (hS _ _ hI) ?_;go_frame;refine Rg.tg 3 11 (.pointer (some ⟨og,0+m,none⟩)) 46 rfl rfl (Rg.yields_index slInts _ _ rfl rfl og (0) (O.length) oc (m) rfl rfl HML.out) (hS _ _ hI) ?_;go_frame;refine Rg.tg 4 11 (.int .i64 ((q:Nat):Int)) 47 rfl rfl (Rg.yields_cell _ _ rfl rfl ⟨og,0+m,none⟩ rfl (fun W hW=>run_loadInt ((Below.cell (p:=⟨og,0+m,none⟩) hW CQ.out.lt).trans CQ.out.cell))) (hS _ _ hI) ?_;go_frame;refine Rg.tg 5 11 (.pointer (some ⟨yb,yo+q,none⟩)) 48 rfl rfl (Rg.yields_index slPerm _ _ rfl rfl yb (yo) (n) yc (q) rfl rfl HQN.out) (hS _ _ hI) ?_;go_frame;refine Rg.tg 6 11 (.int .i64 ((yq:Nat):Int)) 49 rfl rfl (Rg.yields_cell _ _ rfl rfl ⟨yb,yo+q,none⟩ rfl (fun W hW=>run_loadInt ((Below.cell (p:=⟨yb,yo+q,none⟩) hW CXq.out.lt).trans CXq.out.cell))) (hS _ _ hI) ?_;go_frame
       refine Rg.tm 7 11 (.slice (some ⟨yb,yo,none⟩) n yc) 50 (hS _ _ hI) ?_;go_frame;refine Rg.tm 8 11 (.int .i64 ((b:Nat):Int)) 51 (hS _ _ hI) ?_;go_frame;refine Rg.tg 9 11 (.pointer (some ⟨yb,yo+b,none⟩)) 52 rfl rfl (Rg.yields_index slPerm _ _ rfl rfl yb (yo) (n) yc (b) rfl rfl HBN.out) (hS _ _ hI) ?_;go_frame;refine Rg.tg 10 11 (.int .i64 ((yb':Nat):Int)) 53 rfl rfl (Rg.yields_cell _ _ rfl rfl ⟨yb,yo+b,none⟩ rfl (fun W hW=>run_loadInt ((Below.cell (p:=⟨yb,yo+b,none⟩) hW CXb.out.lt).trans CXb.out.cell))) (hS _ _ hI) ?_;go_frame;refine Rg.Any.one (i:=11) (by kernel_rfl) (Rg.Any.run (some 54) rfl rfl rfl (exec_bin (R:=.bool false) .lss _ _ _ rfl rfl rfl (b_lss _ (decide_eq_false (by omega)))) (hS _ _ hI) ?_);go_frame;refine Rg.Any.done (by kernel_rfl) ?_ _;clear hS hI
       have HK1:=ι (show ∀ m' (h:m' < O.length),m' < m+1→Cm.ap y b≤Cm.ap y O[m'] from fun m' h h2=>by
        have a1:=hyq.out;have a2:=hyb.out
        by_cases e:m'=m
        ·subst e
         rw [← hq.out]; omega
        ·have:=HK0.out m' h (by omega)
         omega)
       go_wp2
       go_roundw
       case rel=>exact ⟨b,m+1,_,rfl,by go_num,HML.out,HBN.out,X,HT,RO,K,KB,HBK,HK1⟩
       case measure=>simp [intOf]; have:=HML.out; omega
     ·obtain rfl:m=O.length:=by omega
      have hmN:¬ (O.length:Int)<(O.length:Int):=by omega
      have HALL:=ι (show ∀ q',Cm.idT n tr k q'≠none→Cm.ap y b≤Cm.ap y q' from fun q' hq'=>by
       obtain ⟨v,hv⟩:=Option.ne_none_iff_exists'.1 hq';obtain ⟨m',hm',rfl⟩:=List.getElem_of_mem ((HOM.out q').2 ⟨v,hv⟩)
       exact HK0.out m' hm' hm')
      obtain ⟨v,hv⟩:=HBK.out;have HST:=ι (Cm.LI.step HH.out HTR.out GU0.out hk1 HKL.out HLI.out hv HALL.out);have GV:=ι (OK.out.rp.gd k b v (Nat.zero_le _) HKL.out hv);have GM:=ι (Cm.gd_mul GV.out GY.out);clear HALL HK0 HBK
      by_cases hbk:b=k
      ·have hbN:(b:Int)=(k:Int):=by omega
       have HE:=ι (show Ma.mulN v y=y by
        subst hbk;rw [Cm.idT_self] at hv
        injection hv with e
        rw [← e,Cm.one_mul GY.out])
       clear hbk hv;go_upto_region 14 with (fail);refine Rg.wl ?_;refine Rg.lm 59 (.int .i64 ((b:Nat):Int)) ?_;go_frame;refine Rg.lm 60 (.int .i64 ((k:Nat):Int)) ?_;go_frame;refine Rg.lr 61 (exec_bin (R:=.bool false) .neq _ _ _ rfl rfl rfl (b_neqB _ (decide_eq_false (by omega)))) ?_;go_frame;go_wp2
       go_roundw
       case rel=>exact ⟨k+1,y,_,by go_num,by omega,HKL.out,X,HT,K,KB,GY,ι (by have:=HST.out; rwa [HE.out] at this)⟩
       case measure=>simp [intOf]; have:=HKL.out; omega
      ·have hbN:¬ (b:Int)=(k:Int):=by omega
       rw [Cm.idT_ne hbk] at hv;have HBN:=ι hbn;have UP:=ι (HT.out.some_ k b v HKL.out hbn hv);have CO:=ι (HT.out.out k HKL.out);have CE:=ι (CL.mk (show wr.cell? ⟨Rb k,0+b,none⟩=some (V k b) by rw [Nat.zero_add]; exact HT.out.cell HKL.out hbn) (HT.out.lt HKL.out));clear hbk hv;go_upto_region 14 with (fail);refine Rg.wl ?_;refine Rg.lm 59 (.int .i64 ((b:Nat):Int)) ?_;go_frame;refine Rg.lm 60 (.int .i64 ((k:Nat):Int)) ?_;go_frame;refine Rg.lr 61 (exec_bin (R:=.bool true) .neq _ _ _ rfl rfl rfl (b_neqB _ (decide_eq_true (by omega)))) ?_;go_frame;go_upto_region 15 with (fail);refine Rg.wl ?_;refine Rg.lm 62 (.slice (some ⟨tb,tf,none⟩) n tc) ?_;go_frame;refine Rg.lm 63 (.int .i64 ((k:Nat):Int)) ?_;go_frame;refine Rg.lr 64 (exec_indexS slTable _ _ rfl tb (tf) (n) tc (k) rfl rfl HKL.out) ?_;go_frame;refine Rg.lr 65 (Rg.exec_load (v:=.slice (some ⟨(Rb k),0,none⟩) n n) _ _ rfl ⟨tb,tf+k,none⟩ rfl (Rg.run_loadSl _ _ Try.underlying22 CO.out.cell)) ?_;go_frame
       refine Rg.lm 66 (.int .i64 ((b:Nat):Int)) ?_;go_frame;refine Rg.lr 67 (exec_indexS slPerms _ _ rfl (Rb k) (0) (n) n (b) rfl rfl HBN.out) ?_;go_frame;refine Rg.lr 68 (Rg.exec_load (v:=(V k b)) _ _ rfl ⟨(Rb k),0+b,none⟩ rfl (Rg.run_loadSl _ _ Try.underlying39 CE.out.cell)) ?_;go_frame;refine Rg.lm 69 (.slice (some ⟨yb,yo,none⟩) n yc) ?_;go_frame;refine list_ask (some 70) rfl rfl _ _ (exec_fn 66 _ _ _ rfl rfl rfl (Wfcl1 _ _)) ?_;refine (kMul_f UP.out X.out GV.out GY.out hn2).mono ?_;rintro e1 w1 ⟨mv,rfl,hmv,hb⟩;replace KB:=ι (Rg.acc KB.out hb);refine ⟨_,rfl,?_⟩;go_frame;replace HT:=ι (HT.out.up hb);replace X:=ι (X.out.up hb);replace UP:=ι (UP.out.up hb);replace CO:=ι (CO.out.up hb);replace CE:=ι (CE.out.up hb);replace K:=ι (K.out.up hb);have MV:=ι hmv;generalize Fup F wr w1=F1 at *;clear hb;refine Rg.la 7 (mv) ?_;go_frame;clear hmv;go_wp2
       go_roundw
       case rel=>exact ⟨k+1,_,_,by go_num,by omega,HKL.out,MV,HT,K,KB,GM,HST⟩
       case measure=>simp [intOf]; have:=HKL.out; omega
   ·obtain rfl:k=n:=by omega
    have hkN:¬ (k:Int)<(k:Int):=by omega
    have HSZ:=ι KB.out.size;go_upto_region 16 with (fail);refine Rg.wl ?_;refine Rg.lm 71 (.slice (some ⟨yb,yo,none⟩) k yc) ?_;go_frame;refine list_ask (some 72) rfl rfl _ _ (exec_fn1 52 _ _ rfl rfl (Wncl3 _ _)) ?_;refine (Own_any _ (Ma.ofN y) wr X.out.np (by rw [Ma.len_ofN,GY.out.2]; omega)).mono ?_;rintro e1 w1 ⟨v2,rfl,hrow,hb⟩;replace KB:=ι (Rg.acc KB.out hb);have HROW:=ι hrow;clear hrow;refine ⟨_,rfl,?_⟩;go_frame;replace HT:=ι (HT.out.up hb);replace X:=ι (X.out.up hb);replace K:=ι (K.out.up hb);generalize Fup F wr w1=F1 at *;clear hb;refine Rg.la 6 (v2) ?_;go_frame;go_wp2;go_ret;exact (show RLPost _ _ _ _ _ _ _ from ⟨_,_,_,rfl,HSZ.out,HROW.out,HLI.out,GY.out,KB.out⟩)

theorem Wocl1 (args:Array Value) (w:World):(callFunc 71 args).run Try.prog w=.ok (.enter 71 args) w:=by kernel_rfl
theorem rchain_any {n:Nat} (hn1:1≤n) (hn2:n≤64) {F:Nat→Prop} {tb tf tc:Nat} {w:World} {tr:Tr} {Rb:Nat→Nat} {V:Nat→Nat→Value} (hT:TabAt F tb tf n w tr Rb V) {gs:List Nat→Prop} (hg:∀ s,gs s→Cm.Gd n s) (hok:TabOk n gs tr) (htr:Cm.IsTr n (Cm.Gr n gs) (Cm.idT n tr)) :
  Calls Try.prog 56 #[.slice (some ⟨tb,tf,none⟩) n tc] w fun e w'=>∃ ov rv O R,e=.returned (.agg #[.int .i64 ((n:Nat):Int),ov,rv])∧Rg.FRows (fun z=>w.heap.size≤z) w' ov (O.map Ma.ofN)∧FRows2 (fun z=>w.heap.size≤z) w' rv (R.map (List.map Ma.ofN))∧Cm.IsChain n (Cm.Gr n gs) O R∧Below w.heap.size w w':=by
 have K:=ι (Below.refl w.heap.size w);have HT:=ι hT;have HGS:=ι hg;have HH:=ι (Cm.Gr.isG hg);have OK:=ι hok;have HTR:=ι htr;clear hT hg hok htr
 go_enter Try.func56,Try.ntmps56
 go_upto_region 0 with (fail);refine Rg.wl ?_;have hnew:=Tri.new w (.int .i64 0) (.slice none 0 0) (.slice none 0 0);refine Rg.lr 2 (exec_allocC rfl) ?_;go_frame;have hb:=(Below.refl w.heap.size w).alloc (Nat.le_refl _) (.cells #[.int .i64 0,.slice none 0 0,.slice none 0 0] 33);generalize w.alloc (.cells #[.int .i64 0,.slice none 0 0,.slice none 0 0] 33)=w1 at *;replace HT:=ι (HT.out.below hb);replace K:=ι (Rg.acc K.out hb);clear hb;have FT:=ι hnew;have K1:=ι (Below.refl w1.heap.size w1);have hlo1:=(FT.out.lt);clear hnew;go_upto_region 1 with (fail);refine Rg.wl ?_;refine Rg.lm 8 (.slice (some ⟨tb,tf,none⟩) n tc) ?_;go_frame;refine Rg.lr 9 (exec_len _ _ _ rfl Try.underlying80 _ _ _ rfl) ?_;go_frame;refine Rg.lr 10 (exec_buildC1 (d:=((n:Nat):Int)) _ rfl rfl) ?_;go_frame;have hnew:=Tri.new w1 (.int .i64 0) (.slice none 0 0) (.slice none 0 0);refine Rg.lr 3 (exec_allocC rfl) ?_;go_frame
 have hb:=(Below.refl w1.heap.size w1).alloc (Nat.le_refl _) (.cells #[.int .i64 0,.slice none 0 0,.slice none 0 0] 33);generalize w1.alloc (.cells #[.int .i64 0,.slice none 0 0,.slice none 0 0] 33)=w2 at *;replace K1:=ι (Rg.acc K1.out hb);clear hb;have FC:=ι hnew;refine Rg.list_skip none rfl rfl (Rg.exec_store _ _ _ rfl _ rfl _ rfl (run_storeC _ _ _ _ _ _ _ FC.out)) ?_;go_frame;clear hnew;replace FC:=ι (FC.out.set (.int .i64 ((n:Nat):Int)) (.slice none 0 0) (.slice none 0 0));replace K1:=ι (((K1.out.setCell (p:=⟨w1.heap.size,0,none⟩) (Nat.le_refl _) (.int .i64 ((n:Nat):Int))).setCell (p:=⟨w1.heap.size,1,none⟩) (Nat.le_refl _) (.slice none 0 0)).setCell (p:=⟨w1.heap.size,2,none⟩) (Nat.le_refl _) (.slice none 0 0));generalize (((w2).setCell ⟨w1.heap.size,0,none⟩ (.int .i64 ((n:Nat):Int))).setCell ⟨w1.heap.size,1,none⟩ (.slice none 0 0)).setCell ⟨w1.heap.size,2,none⟩ (.slice none 0 0)=w5 at *
 have CH:=ι (ChR.start FC.out (Nat.le_refl _));clear FC;go_upto_region 2 with (fail);refine Rg.wl ?_;refine Rg.la 4 (.int .i64 ((0:Nat):Int)) ?_;go_frame;have HPC:=ι (Cm.PC.nil n (Cm.Gr n gs) (Cm.idT n tr));go_wp2
 go_loopw [4] (fun iv wr=>∃ (k:Nat) (ov rv:Value) (O:List (List Nat)) (R:List (List (List Nat))),iv=.int .i64 k∧k≤n∧Hid (ChR w1.heap.size wr w1.heap.size (.int .i64 ((n:Nat):Int)) ov rv ov rv (O.map Ma.ofN) (R.map (List.map Ma.ofN)))∧Hid (Below w1.heap.size w1 wr)∧Hid (Cm.PC n (Cm.Gr n gs) (Cm.idT n tr) k O R)) (fun iv _=>n - (intOf iv).toNat)
 case atStart=>exact ⟨0,_,_,[],[],rfl,Nat.zero_le _,CH,K1,HPC⟩
 case round =>
  clear CH K1 HPC;obtain ⟨k,ov,rv,O,R,rfl,hk,CH,K1,HPC⟩:=hrel;have hsO:=CH.out.shapeO;have hsR:=CH.out.shapeR;rw [List.length_map] at hsO hsR;obtain ⟨ova,ovc,rfl⟩:=hsO;obtain ⟨rva,rvc,rfl⟩:=hsR
  by_cases hkl:k<n
  ·have hkN:(k:Int)<(n:Int):=by omega
   have HA2:=ι (orbP_asc tr k n);have HA3:=ι (fun p=>mem_orbL (p:=p) OK.out hkl);have HO1:=ι (Nat.le_trans (orbP_len tr k n) hn2);obtain ⟨l,hl⟩:∃ l,Hid (orbL n tr k=l):=⟨_,ι rfl⟩;replace HA2:Hid (l.Pairwise (· < ·)):=ι (by rw [← hl.out]; exact HA2.out);replace HO1:Hid (l.length≤64):=ι (by rw [← hl.out]; exact HO1.out);rw [hl.out] at HA3;have HO2:=ι (show 1≤l.length from List.length_pos_of_mem ((HA3.out k).2 ⟨_,Cm.idT_self⟩));have HKL:=ι hkl;have HLTS:=ι (show (∀ z,(Value.slice ova O.length ovc).ownBlock=some z→z<wr.heap.size)∧(∀ z,(Value.slice rva R.length rvc).ownBlock=some z→z<wr.heap.size)∧w1.heap.size<wr.heap.size from ⟨fun z e=>(CH.out.lts.1 z e).2,fun z e=>(CH.out.lts.2 z e).2,CH.out.tri.lt⟩);have SZ1:=ι (SZ.mk (Nat.le_refl wr.heap.size));go_upto_region 5 with (fail);refine Rg.wl ?_;refine Rg.lm 17 (.slice (some ⟨tb,tf,none⟩) n tc) ?_;go_frame
   refine Rg.lm 18 (.int .i64 ((k:Nat):Int)) ?_;go_frame;have hszW:=SZ1.out.le;refine list_ask (some 19) rfl rfl _ _ (exec_fn 70 _ _ _ rfl rfl rfl (Wncl1 _ _)) ?_;refine (orbit_any hn1 hn2 (HT.out.below K1.out) (fun i p u e=>tab_gd OK.out e) HKL.out).mono ?_;rintro e1 w11 ⟨v,rfl,hrow,hb⟩;rw [hl.out] at hrow;have hq:=row_of hrow.own (k:=0) (by rw [Ma.len_ofN]; exact HO2.out);rw [Ma.len_ofN] at hq;obtain ⟨sb,sc,u0,rfl,_,_,_⟩:=hq;have HBB:=ι hszW;refine ⟨_,rfl,?_⟩;go_frame;replace CH:=ι (CH.out.below hb);replace SZ1:=ι (SZ1.out.below hb);replace K1:=ι (Rg.acc K1.out hb);clear hb;have R5:=ι hrow;refine Rg.la 5 (.slice (some ⟨sb,0,none⟩) l.length sc) ?_;go_frame;clear hrow;replace HT:=ι (HT.out.below K1.out);replace FT:=ι (FT.out.below K1.out);have K5:=ι (Below.refl w11.heap.size w11);have RP:=ι (RowP.nil w11.heap.size w11);have HRS:=ι (show ∀ j,j<0→Cm.Lst n (fun z=>Cm.St (Cm.Gr n gs) k z∧Cm.ap z k=l.getD j 0) (([]:List (List Nat)).getD j []) from fun j h=>absurd h (Nat.not_lt_zero _))
   go_wp2
   go_loopw [7,6] (fun iv tv wq=>∃ (m:Nat) (rs:List (List Nat)),iv=.int .i64 m∧m≤l.length∧rs.length=m∧Hid (RowP w11.heap.size wq tv (rs.map Ma.ofN))∧Hid (Below w11.heap.size w11 wq)∧Hid (∀ j,j<m→Cm.Lst n (fun z=>Cm.St (Cm.Gr n gs) k z∧Cm.ap z k=l.getD j 0) (rs.getD j []))) (fun iv _ _=>l.length - (intOf iv).toNat)
   case atStart=>exact ⟨0,[],rfl,Nat.zero_le _,rfl,RP,K5,HRS⟩
   case round =>
    clear K5 RP HRS;obtain ⟨m,rs,rfl,hm,hrs,RP,K5,HRS⟩:=hrel
    have hlN:(l.length:Int)≤64:=by have:=HO1.out; omega
    obtain ⟨ta,tc2,rfl⟩:=RP.out.shape
    by_cases hml:m<l.length
    ·have hmN:(m:Int)<(l.length:Int):=by omega
     obtain ⟨p,hp⟩:∃ p:Nat,Hid (p=l[m]):=⟨_,ι rfl⟩
     have hcell:w11.cell? ⟨sb,0+m,none⟩=some (.int .i64 ((p:Nat):Int)):=by
      obtain ⟨g,c,u,e1,e2,e3,_⟩:=row_of R5.out.own (k:=m) (by rw [Ma.len_ofN]; exact hml);simp only [Value.slice.injEq,Option.some.injEq,Addr.mk.injEq] at e1;obtain ⟨⟨rfl,_,_⟩,_,_⟩:=e1;rw [e2,← e3,hp.out];simp [Ma.ofN,List.getElem?_eq_getElem hml]
     have CS:=ι (CL.mk hcell (lt_of_cell hcell));obtain ⟨u,hu⟩:=(HA3.out p).1 (by rw [hp.out]; exact List.getElem_mem hml);have HU:=ι hu;have HML:=ι hml;have HRL:=ι hrs;clear hcell hu hrs;go_upto_region 10 with (fail);refine Rg.wl ?_;refine Rg.lm 26 (.slice ta (rs.map Ma.ofN).length tc2) ?_;go_frame;refine Rg.lm 27 (.slice (some ⟨tb,tf,none⟩) n tc) ?_;go_frame;refine Rg.lm 28 (.int .i64 ((k:Nat):Int)) ?_;go_frame;refine Rg.lm 29 (.slice (some ⟨sb,0,none⟩) l.length sc) ?_;go_frame;refine Rg.lm 30 (.int .i64 ((m:Nat):Int)) ?_;go_frame;refine Rg.lr 31 (exec_indexS slInts _ _ rfl sb (0) (l.length) sc (m) rfl rfl HML.out) ?_;go_frame;refine Rg.lr 32 (Rg.exec_load (v:=.int .i64 ((p:Nat):Int)) _ _ rfl ⟨sb,0+m,none⟩ rfl (run_loadInt ((Below.cell (p:=⟨sb,0+m,none⟩) K5.out CS.out.lt).trans CS.out.cell))) ?_;go_frame;have HLT6:=ι (fun z e=>(RP.out.lt z e).2)
     have HSZ6:=ι K5.out.size;refine list_ask (some 33) rfl rfl _ _ (exec_fn3 71 _ _ _ _ rfl rfl rfl rfl (Wocl1 _ _)) ?_;refine (rleast_any hn1 hn2 (HT.out.below K5.out) HGS.out OK.out HTR.out HKL.out HU.out).mono ?_;rintro e1 w41 ⟨yv,y,B8,rfl,hB8,hrow,hli,hgy,hb⟩;obtain ⟨ca,cc,rfl⟩:=Rg.row_shape hrow;have HROW:=ι hrow;have HLI:=ι hli;have GY:=ι hgy;have HB8:=ι hB8;clear hrow hli hgy hB8;refine ⟨_,rfl,?_⟩;go_frame;replace RP:=ι (RP.out.below hb);replace K5:=ι (Rg.acc K5.out hb);clear hb;refine Rg.lr 34 (Rg.exec_buildSlice _ _ _ rfl (.slice ca (Ma.ofN y).length cc) rfl (run_build1P w41 _ ⟨_,_,_,rfl⟩)) ?_;go_frame;obtain ⟨a9,c9,X9,r1,r2,r3⟩:=RP.out.push K5.out.size HROW.out (by rw [Ma.len_ofN,GY.out.2]; omega) (fun z e=>⟨by have:=(HROW.out.lt z e).1; have:=HSZ6.out; have:=HB8.out; omega,fun e2=>by have:=(HROW.out.lt z e).1; have:=HLT6.out z e2; have:=HB8.out; omega⟩) (by rw [List.length_map,HRL.out]; have:=HO1.out; have:=HML.out; omega) 22
     refine Rg.lr 35 (Rg.exec_append _ _ _ rfl rfl rfl r1) ?_;go_frame;refine Rg.la 6 (.slice a9 ((rs.map Ma.ofN).length+1) c9) ?_;go_frame;have K6:=ι (r3 (Nat.le_refl _) K5.out);have RP2:=ι (show RowP w11.heap.size X9 (.slice a9 ((rs.map Ma.ofN).length+1) c9) ((rs++[y]).map Ma.ofN) by rw [List.map_append]; exact r2);have HLS:=ι (Cm.LI.done HH.out HKL.out ⟨HTR.out.mem k p u HKL.out HU.out,HTR.out.rp.fx k p u (Nat.zero_le _) HKL.out HU.out⟩ HLI.out)
     have HRS2:=ι (show ∀ j,j<m+1→Cm.Lst n (fun z=>Cm.St (Cm.Gr n gs) k z∧Cm.ap z k=l.getD j 0) ((rs++[y]).getD j []) from fun j hj=>by
      have hl:=HRL.out
      by_cases e:j=m
      ·subst e
       have e1:(rs++[y]).getD j []=y:=by
        rw [List.getD_eq_getElem?_getD,List.getElem?_append_right (by omega),hl]; simp
       have e2:l.getD j 0=p:=by
        rw [hp.out,List.getD_eq_getElem?_getD,List.getElem?_eq_getElem HML.out]; rfl
       have e3:Cm.ap u k=p:=HTR.out.rp.at_ k p u (Nat.zero_le _) HKL.out HU.out;rw [e1,e2];have:=HLS.out
       rwa [e3] at this
      ·have e1:(rs++[y]).getD j []=rs.getD j []:=by
        rw [List.getD_eq_getElem?_getD,List.getD_eq_getElem?_getD,List.getElem?_append_left (by omega)]
       rw [e1]
       exact HRS.out j (by omega))
     have HRL2:=ι (show (rs++[y]).length=m+1 by rw [List.length_append,HRL.out]; rfl);clear r1 r2 r3;go_wp2
     go_roundw
     case rel=>exact ⟨m+1,rs++[y],by go_num,HML.out,HRL2.out,RP2,K6,HRS2⟩
     case measure=>simp [intOf]; have:=HML.out; omega
    ·obtain rfl:m=l.length:=by omega
     have hmN:¬ (l.length:Int)<(l.length:Int):=by omega
     replace CH:=ι (CH.out.below K5.out);replace K1:=ι (Rg.acc K1.out K5.out);have SZ5:=SZ1.out.le;replace SZ1:=ι (SZ1.out.below K5.out);have hR5:=R5.out.below K5.out
     have PD:=ι (Pend.mk CH.out (hR5.fi (by rw [Ma.len_ofN]; omega) (G:=GS2 w1.heap.size wr w1.heap.size (Value.slice ova O.length ovc) (Value.slice rva R.length rvc)) (fun z g1 g2=>⟨by have:=HBB.out; have:=HLTS.out.2.2; omega,g2,fun e=>by have:=HBB.out; have:=HLTS.out.1 z e; omega,fun e=>by have:=HBB.out; have:=HLTS.out.2.1 z e; omega,by have:=HBB.out; have:=HLTS.out.2.2; omega⟩))
      (RP.out.frows (by rw [List.length_map,hrs]; omega) (G:=GS2 w1.heap.size wr w1.heap.size (Value.slice ova O.length ovc) (Value.slice rva R.length rvc)) (fun z g1 g2=>⟨by have:=HLTS.out.2.2; omega,g2,fun e=>by have:=HLTS.out.1 z e; omega,fun e=>by have:=HLTS.out.2.1 z e; omega,by have:=HLTS.out.2.2; omega⟩)))
     have HRSL:=ι hrs;have HOL:=ι (show (O.map Ma.ofN).length<1000000 by rw [List.length_map,HPC.out.lenO]; omega);have HRLn:=ι (show (R.map (List.map Ma.ofN)).length<1000000 by rw [List.length_map,HPC.out.lenR]; omega);clear SZ5 hR5 CH RP R5 FT hrs;go_upto_region 11 with (fail);have hV1:Below wr.heap.size wr wr.drew:=(Below.refl _ _).drew;replace PD:=ι (PD.out.below hV1);replace K1:=ι (Rg.acc K1.out hV1);replace SZ1:=ι (SZ1.out.below hV1);clear hV1;have hV0:Below wr.heap.size wr wr.drew:=(Below.refl _ _).drew;generalize Fup F wr wr.drew=F1 at *;clear hV0;refine Rg.Any.begin (S:=Rg.Both 11 (fun W:World=>Tri W w1.heap.size (.int .i64 ((n:Nat):Int)) (Value.slice ova O.length ovc) (Value.slice rva R.length rvc)∧Below w1.heap.size w1 W) (fun _=>True)) mix ?_;generalize wr.drew=w61 at *;have hS:∀ (l:Array Bool) W,(fun W:World=>Tri W w1.heap.size (.int .i64 ((n:Nat):Int)) (Value.slice ova O.length ovc) (Value.slice rva R.length rvc)∧Below w1.heap.size w1 W) W→Rg.Both 11 (fun W:World=>Tri W w1.heap.size (.int .i64 ((n:Nat):Int)) (Value.slice ova O.length ovc) (Value.slice rva R.length rvc)∧Below w1.heap.size w1 W) (fun _=>True) l W:=fun l W h=>⟨.inr h,trivial⟩
     have hS2:∀ (l:Array Bool) W,l.getD 11 false=true→Rg.Both 11 (fun W:World=>Tri W w1.heap.size (.int .i64 ((n:Nat):Int)) (Value.slice ova O.length ovc) (Value.slice rva R.length rvc)∧Below w1.heap.size w1 W) (fun _=>True) l W:=fun l W h=>⟨.inl h,trivial⟩;have hI:(fun W:World=>Tri W w1.heap.size (.int .i64 ((n:Nat):Int)) (Value.slice ova O.length ovc) (Value.slice rva R.length rvc)∧Below w1.heap.size w1 W) w61:=⟨PD.out.ch.tri,K1.out⟩;refine Rg.tg 0 11 (.pointer (some ⟨w1.heap.size,1,none⟩)) 36 rfl rfl (.inl ⟨rfl,fun w _=>exec_field _ rfl rfl (chF1 _ _)⟩) (hS _ _ hI) ?_;go_frame;refine Rg.Any.takeT (i:=1) (t:=11) (v:=.slice ova O.length ovc) (some 37) rfl rfl (by kernel_rfl) (by kernel_rfl) (by kernel_rfl) (fun _ _ _ h=>h) rfl (by kernel_rfl) rfl (Rg.yields_cell _ _ rfl rfl ⟨w1.heap.size,1,none⟩ rfl (fun W hW=>Rg.run_loadSl _ _ Try.underlying30 hW.1.c1)) (hS _ _ hI) ?_;go_frame
     refine Rg.tm 2 11 (.slice (some ⟨sb,0,none⟩) l.length sc) 38 (hS _ _ hI) ?_;go_frame;refine Rg.tg 5 11 (.pointer (some ⟨w1.heap.size,2,none⟩)) 41 rfl rfl (.inl ⟨rfl,fun w _=>exec_field _ rfl rfl (chF2 _ _)⟩) (hS _ _ hI) ?_;go_frame;refine Rg.Any.takeT (i:=6) (t:=11) (v:=.slice rva R.length rvc) (some 42) rfl rfl (by kernel_rfl) (by kernel_rfl) (by kernel_rfl) (fun _ _ _ h=>h) rfl (by kernel_rfl) rfl (Rg.yields_cell _ _ rfl rfl ⟨w1.heap.size,2,none⟩ rfl (fun W hW=>Rg.run_loadSl _ _ Try.underlying31 hW.1.c2)) (hS _ _ hI) ?_;go_frame;refine Rg.tm 7 11 (.slice ta (rs.map Ma.ofN).length tc2) 43 (hS _ _ hI) ?_;go_frame
     refine Rg.Any.c2f1q (i:=3) (k:=4) (j:=8) (q:=10) (di:=39) (dk:=40) (dj:=44) (dq:=46) (vq:=.pointer (some ⟨w1.heap.size,1,none⟩)) (I:=fun W=>(fun W:World=>Tri W w1.heap.size (.int .i64 ((n:Nat):Int)) (Value.slice ova O.length ovc) (Value.slice rva R.length rvc)∧Below w1.heap.size w1 W) W∧w61.heap.size≤W.heap.size) (R0:=fun W=>Pend w1.heap.size W w1.heap.size (.int .i64 ((n:Nat):Int)) (Value.slice ova O.length ovc) (Value.slice rva R.length rvc) (Value.slice ova O.length ovc) (Value.slice rva R.length rvc) (O.map Ma.ofN) (R.map (List.map Ma.ofN)) (.slice (some ⟨sb,0,none⟩) l.length sc) (Ma.ofN l) (.slice ta (rs.map Ma.ofN).length tc2) (rs.map Ma.ofN)) (Ri:=fun u W=>Rg.BlkF w61.heap.size [.slice (some ⟨sb,0,none⟩) l.length sc] u W) (Rk:=fun x W=>ChR w1.heap.size W w1.heap.size (.int .i64 ((n:Nat):Int)) (Value.slice ova O.length ovc) (Value.slice rva R.length rvc) x (Value.slice rva R.length rvc) (O.map Ma.ofN++[Ma.ofN l]) (R.map (List.map Ma.ofN))∧Rg.FRows (GS2 w1.heap.size W w1.heap.size x (Value.slice rva R.length rvc)) W (.slice ta (rs.map Ma.ofN).length tc2) (rs.map Ma.ofN)∧∃ a c,x=.slice a (O.length+1) c) (Rj:=fun v W=>Rg.BlkF w61.heap.size [.slice ta (rs.map Ma.ofN).length tc2] v W) (fun l W h=>hS l W h.1)
      (by decide) (by decide) (by decide) (by decide) (by decide) (by decide) (by kernel_rfl) (by kernel_rfl) (by kernel_rfl) (by kernel_rfl) (by kernel_rfl) ?_ ?_
      (fun _ _ hb h=>h.below hb) (fun _ _ _ hb h=>h.below hb) (fun _ _ _ hb h=>⟨h.1.below hb,frows_below h.2.1 hb,h.2.2⟩) (fun _ _ _ hb h=>h.below hb) ?_ ?_ ?_ ⟨hI,Nat.le_refl _⟩ (PD.out) ?_
     ·intro u x W m hs h
      exact Rg.Any.takeG (i:=10) (t:=11) (v:=.pointer (some ⟨w1.heap.size,1,none⟩)) (some 46) rfl rfl (by kernel_rfl) (by kernel_rfl) (by kernel_rfl) (fun _ _ _ h=>h) rfl (.inl ⟨rfl,fun w _=>exec_field _ rfl rfl (chF1 _ _)⟩) hs h
     ·intro u v x W m hs h
      exact Rg.Any.takeG (i:=10) (t:=11) (v:=.pointer (some ⟨w1.heap.size,1,none⟩)) (some 46) rfl rfl (by kernel_rfl) (by kernel_rfl) (by kernel_rfl) (fun _ _ _ h=>h) rfl (.inl ⟨rfl,fun w _=>exec_field _ rfl rfl (chF1 _ _)⟩) hs h
     ·intro b hb W hW
      have hbA:Below W.heap.size W (W.alloc (.cells #[.slice (some ⟨sb,0,none⟩) l.length sc] 38)):=(Below.refl _ _).alloc (Nat.le_refl _) _
      exact Rg.doesRun rfl rfl (by rcases hb with rfl | ⟨u,rfl⟩ <;> rfl) (Rg.exec_buildSlice _ _ _ rfl (.slice (some ⟨sb,0,none⟩) l.length sc) (by rcases hb with rfl | ⟨u,rfl⟩ <;> rfl) (run_build1L W _ ⟨_,_,_,rfl⟩)) ⟨⟨⟨hW.1.1.below hbA,Rg.acc hW.1.2 hbA⟩,by simp; have:=hW.2; omega⟩,Rg.BlkF.new W [.slice (some ⟨sb,0,none⟩) l.length sc] 38 hW.2,hbA⟩
     ·intro b hb W hW
      have hbA:Below W.heap.size W (W.alloc (.cells #[.slice ta (rs.map Ma.ofN).length tc2] 22)):=(Below.refl _ _).alloc (Nat.le_refl _) _
      exact Rg.doesRun rfl rfl (by rcases hb with rfl | ⟨u,rfl⟩ | ⟨u,v,rfl⟩ <;> rfl) (Rg.exec_buildSlice _ _ _ rfl (.slice ta (rs.map Ma.ofN).length tc2) (by rcases hb with rfl | ⟨u,rfl⟩ | ⟨u,v,rfl⟩ <;> rfl) (run_build1PP W _ ⟨_,_,_,rfl⟩)) ⟨⟨⟨hW.1.1.below hbA,Rg.acc hW.1.2 hbA⟩,by simp; have:=hW.2; omega⟩,Rg.BlkF.new W [.slice ta (rs.map Ma.ofN).length tc2] 22 hW.2,hbA⟩
     ·intro u b hb W hW h0 hu
      obtain ⟨pu,rfl,hp0,hp1,hp2⟩:=hu;obtain ⟨a2,c2,X,r1,r2,r3,r4⟩:=h0.ch.pushO hW.1.2.size h0.f5 rfl HOL.out (hp2 0 (by simp)) 30;have hkX:=Rg.Kp.of_grown r3 (M:=fun z=>(Value.slice ova O.length ovc).ownBlock=some z) (fun _ e=>e)
      exact Rg.doesRun rfl rfl (by rcases hb with rfl | ⟨v,rfl⟩ <;> rfl) (Rg.exec_append _ _ _ rfl (by rcases hb with rfl | ⟨v,rfl⟩ <;> rfl) (by rcases hb with rfl | ⟨v,rfl⟩ <;> rfl) r1) ⟨⟨⟨r2.tri,hW.1.2.grown r3 hW.1.2.size (fun j e=>(h0.ch.lts.1 j e).1)⟩,Nat.le_trans hW.2 r3.size⟩,⟨r2,FRows.mono (FRows.kp h0.f6 hkX (fun z g e=>g.2.2.1 e)) r4,_,_,by rw [List.length_map]⟩,fun v hv=>hv.grown r3 (fun j e=>Nat.lt_of_lt_of_le (HLTS.out.1 j e) SZ1.out.le)⟩
     rintro w62 fu fx fv hb hk hj;have hI2_f:=hb.1;have hVsz:=hb.2;clear hb hI;go_frame;have FK:=ι hk;have FJ:=ι hj;obtain ⟨pj,hje,hj0,hj1,hj2⟩:=FJ.out;subst hje;obtain ⟨a2,c2,hfx⟩:=FK.out.2.2;subst hfx;obtain ⟨a3,c3,X3,q1,q2,q3⟩:=FK.out.1.pushR hI2_f.2.size FK.out.2.1 rfl HRLn.out (hj2 0 (by simp)) 31;rw [List.length_map] at q1 q2;have hI3_m:=(show _∧_ from ⟨q2.tri,hI2_f.2.grown q3 hI2_f.2.size (fun j e=>(FK.out.1.lts.2 j e).1)⟩);refine Rg.Any.one (i:=9) (by kernel_rfl) (Rg.Any.run (some 45) rfl rfl rfl (Rg.exec_append _ _ _ rfl rfl rfl q1) (hS _ _ hI3_m) ?_);go_frame;have KX:=ι hI3_m.2;refine Rg.Any.one (i:=11) (by kernel_rfl) (Rg.Any.runSkip none rfl rfl rfl (Rg.exec_store _ _ _ rfl _ rfl _ rfl (Rg.run_storeSl _ infoIntss q2.tri.c1 q2.tri.f1)) (hS2 _ _ rfl) ?_);go_frame;refine Rg.tg 12 11 (.pointer (some ⟨w1.heap.size,2,none⟩)) 47 rfl rfl (.inl ⟨rfl,fun w _=>exec_field _ rfl rfl (chF2 _ _)⟩) (hS2 _ _ rfl) ?_;go_frame
     refine Rg.Any.one (i:=13) (by kernel_rfl) (Rg.Any.runSkip none rfl rfl rfl (Rg.exec_store _ _ _ rfl _ rfl _ rfl (Rg.run_storeSl _ infoPermss (q2.tri.set1 _).c2 (q2.tri.set1 _).f2)) (hS2 _ _ rfl) ?_);go_frame;refine Rg.Any.done (by kernel_rfl) ?_ _;clear hS2;clear hS hI3_m;have hst:=q2.store (.slice a2 (O.length+1) c2) (.slice a3 (R.length+1) c3);have hkk:=(KX.out.setCell (p:=⟨w1.heap.size,1,none⟩) (Nat.le_refl _) (.slice a2 (O.length+1) c2)).setCell (p:=⟨w1.heap.size,2,none⟩) (Nat.le_refl _) (.slice a3 (R.length+1) c3);generalize (X3.setCell ⟨w1.heap.size,1,none⟩ (.slice a2 (O.length+1) c2)).setCell ⟨w1.heap.size,2,none⟩ (.slice a3 (R.length+1) c3)=w99 at *;have CH2:=ι (show ChR w1.heap.size w99 w1.heap.size (.int .i64 ((n:Nat):Int)) (.slice a2 (O.length+1) c2) (.slice a3 (R.length+1) c3) (.slice a2 (O.length+1) c2) (.slice a3 (R.length+1) c3) ((O++[l]).map Ma.ofN) ((R++[rs]).map (List.map Ma.ofN)) by rw [List.map_append,List.map_append]; exact hst)
     have K2:=ι hkk;have HP2:=ι (HPC.out.snoc HA2.out (fun p=>HA3.out p) HRSL.out HRS.out);clear hst hkk q1 q2 q3 KX FK FJ PD;go_wp2
     go_roundw
     case rel=>exact ⟨k+1,_,_,O++[l],R++[rs],by go_num,HKL.out,CH2,K2,HP2⟩
     case measure=>simp [intOf]; have:=HKL.out; omega
  ·obtain rfl:k=n:=by omega
   have hkN:¬ (k:Int)<(k:Int):=by omega
   have TT:=ι (FT.out.below K1.out);go_upto_region 12 with (fail);refine Rg.wl ?_;refine Rg.lr 48 (Rg.exec_load _ _ rfl ⟨w1.heap.size,0,none⟩ rfl (run_loadC CH.out.tri)) ?_;go_frame;refine Rg.list_skip none rfl rfl (Rg.exec_store _ _ _ rfl _ rfl _ rfl (run_storeC _ _ _ _ _ _ _ TT.out)) ?_;go_frame;have hkt:=Rg.Kp.trans (Rg.Kp.trans (Rg.Kp.of_setCell (M:=fun z=>z=w.heap.size) (w:=wr) (a:=⟨w.heap.size,0,none⟩) (v:=.int .i64 ((k:Nat):Int)) rfl) (Rg.Kp.of_setCell (M:=fun z=>z=w.heap.size) (a:=⟨w.heap.size,1,none⟩) (v:=(Value.slice ova O.length ovc)) rfl) (fun _ _ e=>e)) (Rg.Kp.of_setCell (M:=fun z=>z=w.heap.size) (a:=⟨w.heap.size,2,none⟩) (v:=(Value.slice rva R.length rvc)) rfl) (fun _ _ e=>e);have hch:=CH.out.kp hkt (fun z e=>by rw [e]; exact hlo1);have htt:=TT.out.set (.int .i64 ((k:Nat):Int)) (Value.slice ova O.length ovc) (Value.slice rva R.length rvc)
   have hkf:=((((K.out.trans (K1.out.mono K.out.size)).setCell (p:=⟨w.heap.size,0,none⟩) (Nat.le_refl _) (.int .i64 ((k:Nat):Int))).setCell (p:=⟨w.heap.size,1,none⟩) (Nat.le_refl _) (Value.slice ova O.length ovc)).setCell (p:=⟨w.heap.size,2,none⟩) (Nat.le_refl _) (Value.slice rva R.length rvc));have hfin:=HPC.out.isChain HTR.out
   have hfr2:∀ (X:World) (c0 c1 c2 a b:Value),ChR w1.heap.size X w1.heap.size c0 c1 c2 a b (O.map Ma.ofN) (R.map (List.map Ma.ofN))→FRows2 (fun z=>w.heap.size≤z) X b (R.map (List.map Ma.ofN)):=fun _ _ _ _ _ _ h=>by
    obtain ⟨us,h1,h2⟩:=h.frR (by rw [List.length_map,HPC.out.lenR]; omega);exact ⟨us,h1.mono (fun z hz=>by omega),FElts2.mono h2 (fun z hz=>by omega)⟩
   go_wp2;exact bodyPost_ret (results_cellC rfl _ rfl htt) rfl ⟨_,_,rfl,O,FRows.mono (hch.frO (by rw [List.length_map,HPC.out.lenO]; omega)) (fun z hz=>by omega),R,hfr2 _ _ _ _ _ _ hch,hfin,hkf⟩
end Go.Proofs.Ythehbckogieimaa

namespace Go.Proofs.Ythehbckogieimaa
open Go.RowKit
open Go.Proofs
open Go.Proofs.Ob
open Go.Proofs.Cm (Tr TabOk)
attribute [local irreducible] Go.Calls Go.wpList
theorem Wpcl0 (args:Array Value) (w:World):(callFunc 51 args).run Try.prog w=.ok (.enter 51 args) w:=by kernel_rfl
theorem Wpcl1 (args:Array Value) (w:World):(callFunc 53 args).run Try.prog w=.ok (.enter 53 args) w:=by kernel_rfl
theorem Wpcl3 (args:Array Value) (w:World):(callFunc 55 args).run Try.prog w=.ok (.enter 55 args) w:=by kernel_rfl
theorem Wpcl4 (args:Array Value) (w:World):(callFunc 56 args).run Try.prog w=.ok (.enter 56 args) w:=by kernel_rfl
theorem FRows2.mono {F F':Nat→Prop} {w:World} {v:Value} {lll:List (List (List Int))} (h:FRows2 F w v lll) (hF:∀ k,F k→F' k):FRows2 F' w v lll:=by
 obtain ⟨us,h1,h2⟩:=h;exact ⟨us,h1.mono hF,FElts2.mono h2 hF⟩
def ChIsF (B:Nat) (w:World) (cv:Value) (n:Nat) (gs:List (List Nat)):Prop:=∃ ov rv O R,cv=.agg #[.int .i64 ((n:Nat):Int),ov,rv]∧Rg.FRows (fun z=>B≤z) w ov (O.map Ma.ofN)∧FRows2 (fun z=>B≤z) w rv (R.map (List.map Ma.ofN))∧Cm.IsChain n (Cm.Gr n (·∈gs)) O R
def ChAnsF (B:Nat) (w:World) (d:Int) (ll:List (List Int)) (cv:Value) (c:Int):Prop:=(c≠0∧cv=zeroC)∨(c=0∧∃ n gs,d=((n:Nat):Int)∧ll=gs.map Ma.ofN∧1≤n∧n≤64∧ChIsF B w cv n gs)
theorem ChAnsF.kp {B:Nat} {M:Nat→Prop} {w w':World} {d:Int} {ll:List (List Int)} {cv:Value} {c:Int} (h:ChAnsF B w d ll cv c) (hk:Rg.Kp M w w') (hM:∀ z,M z→z<B):ChAnsF B w' d ll cv c:=by
 rcases h with h | ⟨h0,n,gs,h1,h2,h3,h4,ov,rv,O,R,h5,h6,h7,h8⟩
 ·exact .inl h
 ·exact .inr ⟨h0,n,gs,h1,h2,h3,h4,ov,rv,O,R,h5,FRows.kp h6 hk (fun z g e=>by have:=hM z e; omega),h7.kp hk (fun z g e=>by have:=hM z e; omega),h8⟩
theorem ChAnsF.ans {B:Nat} {w:World} {d:Int} {ll:List (List Int)} {cv:Value} {c:Int} (h:ChAnsF B w d ll cv c):ChAns w d ll cv c:=by
 rcases h with h | ⟨h0,n,gs,h1,h2,h3,h4,ov,rv,O,R,h5,h6,h7,h8⟩
 ·exact .inl h
 ·exact .inr ⟨h0,n,gs,h1,h2,h3,h4,ov,rv,O,R,h5,FRows.rows h6,h7.rows,h8⟩
theorem ChAns.shape {w:World} {d:Int} {ll:List (List Int)} {cv:Value} {c:Int} (h:ChAns w d ll cv c):∃ e a n k a' n' k',cv=.agg #[.int .i64 e,.slice a n k,.slice a' n' k']:=by
 rcases h with ⟨_,rfl⟩ | ⟨h0,n,gs,h1,h2,h3,h4,ov,rv,O,R,h5,h6,h7,h8⟩
 ·exact ⟨_,_,_,_,_,_,_,rfl⟩
 ·obtain ⟨oa,oc,rfl,_⟩:=h6.shape
  obtain ⟨ra,rc,rfl⟩:=h7.shape;exact ⟨_,_,_,_,_,_,_,h5⟩
theorem GS.kg {F F':Nat→Prop} {w w':World} {v:Value} {gs:List (List Nat)} (h:GS F w v gs) (hk:KG F w F' w'):GS F' w' v gs:=by
 obtain ⟨a,c,e,h1⟩:=h;refine ⟨a,c,e,fun h0=>?_⟩;obtain ⟨b,o,e2,h2⟩:=h1 h0;refine ⟨b,o,e2,fun k hk2=>?_⟩;obtain ⟨u,h3,h4⟩:=h2 k hk2;exact ⟨u,h3.kg hk,h4.kg hk⟩
theorem GS.at {F:Nat→Prop} {w:World} {b o n c:Nat} {gs:List (List Nat)} (h:GS F w (.slice (some ⟨b,o,none⟩) n c) gs) {k:Nat} (hk:k<gs.length):∃ u,CF F w b (o+k) u∧FP F w u gs[k]:=by
 obtain ⟨a,c',e,h1⟩:=h;obtain ⟨b',o',e2,h2⟩:=h1 (by omega)
 injection e with e3 _ _
 rw [e2] at e3;simp only [Option.some.injEq,Addr.mk.injEq,and_true] at e3;obtain ⟨rfl,rfl⟩:=e3;exact h2 k hk
theorem empty_b {n:Nat} (hn1:1≤n) (hn2:n≤64) (w:World) :
  Calls Try.prog 53 #[.int .i64 ((n:Nat):Int)] w fun e w'=>∃ tb c F Rb,e=.returned (.slice (some ⟨tb,0,none⟩) n c)∧KG (fun k=>k<w.heap.size) w F w'∧TabAt F tb 0 n w' (fun _ _=>none) Rb (fun _ _=>.slice none 0 0)∧Below w.heap.size w w':=by
 refine (empty_any hn1 hn2 w).mono ?_;rintro e w' ⟨tb,c,F,Rb,rfl,h1,h2⟩;exact ⟨tb,c,F,Rb,rfl,h1,h2,h1.kf.below (Nat.le_refl _) (fun _ h=>h)⟩
theorem rMake_any (gv:Value) (d:Int) (ll:List (List Int)) (w:World) (h:Rg.Rows w gv ll) :
  Calls Try.prog 41 #[.int .i64 d,gv] w fun e w'=>∃ cv,e=.returned (.tuple #[cv,.int .i64 (mkchk d ll)])∧ChAnsF w.heap.size w' d ll cv (mkchk d ll)∧Below w.heap.size w w':=by
 obtain ⟨ga,gc,rfl,hcap,hbig,_,hgs⟩:=h.shape;have G0:=ι h;have HGS:=ι hgs;have K:=ι (Below.refl w.heap.size w);clear h hgs hcap
 go_enter Try.func41,Try.ntmps41
 go_upto_region 0 with (fail);refine Rg.wl ?_;have hnew:=Tri.new w (.int .i64 0) (.slice none 0 0) (.slice none 0 0);refine Rg.lr 4 (exec_allocC rfl) ?_;go_frame;have hb:=(Below.refl w.heap.size w).alloc (Nat.le_refl _) (.cells #[.int .i64 0,.slice none 0 0,.slice none 0 0] 33);generalize w.alloc (.cells #[.int .i64 0,.slice none 0 0,.slice none 0 0] 33)=w1 at *;replace G0:=ι (G0.out.below hb);replace K:=ι (Rg.acc K.out hb);clear hb;have FT:=ι hnew;refine Rg.la 5 (.int .i64 ((0:Nat):Int)) ?_;go_frame;clear hnew;have K1:=ι (Below.refl w1.heap.size w1);have KB:=K;clear K;have hlo:=FT.out.lt
 by_cases hd1:d<1
 ·have HC:=ι (show mkchk d ll=2 by unfold mkchk; rw [if_neg (by omega)])
  go_upto_region 1 with (fail);refine Rg.wl ?_;refine Rg.lm 10 (.int .i64 d) ?_;go_frame;refine Rg.lr 11 (exec_bin (R:=.bool true) .lss _ _ _ rfl rfl rfl (b_lss _ (decide_eq_true (by omega)))) ?_;go_frame;refine Rg.lm 12 (.bool true) ?_;go_frame;refine listW_pass (some 13) (by kernel_rfl) rfl ?_;go_frame;refine listW_pass (some 14) (by kernel_rfl) rfl ?_;go_frame;refine Rg.lr 15 (exec_pickT (v:=.bool true) _ _ _ rfl rfl rfl) ?_;go_frame;have FT2:=ι (FT.out.below K1.out);have KX:=ι (KB.out.trans (K1.out.mono KB.out.size));go_upto_region 2 with (fail);refine Rg.wl ?_;refine Rg.lr 16 (exec_buildC0 rfl) ?_;go_frame;refine Rg.list_skip none rfl rfl (Rg.exec_store _ _ _ rfl _ rfl _ rfl (run_storeC _ _ _ _ _ _ _ FT2.out)) ?_;go_frame;refine Rg.la 5 (.int .i64 ((2:Nat):Int)) ?_;go_frame;have hfz:=fin_zero FT2.out KX.out (Nat.le_refl _);generalize ((w1.setCell ⟨w.heap.size,0,none⟩ (.int .i64 0)).setCell ⟨w.heap.size,1,none⟩ (.slice none 0 0)).setCell ⟨w.heap.size,2,none⟩ (.slice none 0 0)=w99 at *
  have HFI:=ι (show ∃ cv,Ending.returned (.tuple #[zeroC,.int .i64 (2)])=.returned (.tuple #[cv,.int .i64 (mkchk d ll)])∧ChAnsF w.heap.size w99 d ll cv (mkchk d ll)∧Below w.heap.size w w99 from
   ⟨_,by rw [HC.out],.inl ⟨by rw [HC.out]; decide,rfl⟩,hfz.2⟩)
  have HTT:=ι hfz.1;clear hfz;go_wp2;exact bodyPost_ret (results_cellC2 (p:=4) (u:=5) rfl _ rfl rfl HTT.out) rfl HFI.out
 by_cases hd2:64<d
 ·have HC:=ι (show mkchk d ll=2 by unfold mkchk; rw [if_neg (by omega)])
  go_upto_region 1 with (fail);refine Rg.wl ?_;refine Rg.lm 10 (.int .i64 d) ?_;go_frame;refine Rg.lr 11 (exec_bin (R:=.bool false) .lss _ _ _ rfl rfl rfl (b_lss _ (decide_eq_false (by omega)))) ?_;go_frame;refine Rg.lm 12 (.bool false) ?_;go_frame;refine listW_run (some 13) rfl rfl (Rg.xm (.int .i64 d) _ rfl rfl) ?_;go_frame;refine listW_run (some 14) rfl rfl (exec_bin (R:=.bool true) .gtr _ _ _ rfl rfl rfl (b_gtr _ (decide_eq_true (by omega)))) ?_;go_frame;refine Rg.lr 15 (exec_pickF (v:=.bool true) _ _ _ rfl rfl rfl) ?_;go_frame;have FT2:=ι (FT.out.below K1.out);have KX:=ι (KB.out.trans (K1.out.mono KB.out.size));go_upto_region 2 with (fail);refine Rg.wl ?_;refine Rg.lr 16 (exec_buildC0 rfl) ?_;go_frame;refine Rg.list_skip none rfl rfl (Rg.exec_store _ _ _ rfl _ rfl _ rfl (run_storeC _ _ _ _ _ _ _ FT2.out)) ?_;go_frame;refine Rg.la 5 (.int .i64 ((2:Nat):Int)) ?_;go_frame
  have hfz:=fin_zero FT2.out KX.out (Nat.le_refl _);generalize ((w1.setCell ⟨w.heap.size,0,none⟩ (.int .i64 0)).setCell ⟨w.heap.size,1,none⟩ (.slice none 0 0)).setCell ⟨w.heap.size,2,none⟩ (.slice none 0 0)=w99 at *
  have HFI:=ι (show ∃ cv,Ending.returned (.tuple #[zeroC,.int .i64 (2)])=.returned (.tuple #[cv,.int .i64 (mkchk d ll)])∧ChAnsF w.heap.size w99 d ll cv (mkchk d ll)∧Below w.heap.size w w99 from
   ⟨_,by rw [HC.out],.inl ⟨by rw [HC.out]; decide,rfl⟩,hfz.2⟩)
  have HTT:=ι hfz.1;clear hfz;go_wp2;exact bodyPost_ret (results_cellC2 (p:=4) (u:=5) rfl _ rfl rfl HTT.out) rfl HFI.out
 have hd3:1≤d∧d≤64:=by omega
 go_upto_region 1 with (fail);refine Rg.wl ?_;refine Rg.lm 10 (.int .i64 d) ?_;go_frame;refine Rg.lr 11 (exec_bin (R:=.bool false) .lss _ _ _ rfl rfl rfl (b_lss _ (decide_eq_false (by omega)))) ?_;go_frame;refine Rg.lm 12 (.bool false) ?_;go_frame;refine listW_run (some 13) rfl rfl (Rg.xm (.int .i64 d) _ rfl rfl) ?_;go_frame;refine listW_run (some 14) rfl rfl (exec_bin (R:=.bool false) .gtr _ _ _ rfl rfl rfl (b_gtr _ (decide_eq_false (by omega)))) ?_;go_frame;refine Rg.lr 15 (exec_pickF (v:=.bool false) _ _ _ rfl rfl rfl) ?_;go_frame
 by_cases hg1:4096<ll.length
 ·have HC:=ι (show mkchk d ll=4 by unfold mkchk; rw [if_pos hd3,if_neg (by omega)])
  go_upto_region 3 with (fail);refine Rg.wl ?_;refine Rg.lm 17 (.slice ga ll.length gc) ?_;go_frame;refine Rg.lr 18 (exec_len _ _ _ rfl Try.underlying22 _ _ _ rfl) ?_;go_frame;refine Rg.lr 19 (exec_bin (R:=.bool true) .gtr _ _ _ rfl rfl rfl (b_gtr _ (decide_eq_true (by omega)))) ?_;go_frame;have FT2:=ι (FT.out.below K1.out);have KX:=ι (KB.out.trans (K1.out.mono KB.out.size));go_upto_region 4 with (fail);refine Rg.wl ?_;refine Rg.lr 20 (exec_buildC0 rfl) ?_;go_frame;refine Rg.list_skip none rfl rfl (Rg.exec_store _ _ _ rfl _ rfl _ rfl (run_storeC _ _ _ _ _ _ _ FT2.out)) ?_;go_frame;refine Rg.la 5 (.int .i64 ((4:Nat):Int)) ?_;go_frame;have hfz:=fin_zero FT2.out KX.out (Nat.le_refl _);generalize ((w1.setCell ⟨w.heap.size,0,none⟩ (.int .i64 0)).setCell ⟨w.heap.size,1,none⟩ (.slice none 0 0)).setCell ⟨w.heap.size,2,none⟩ (.slice none 0 0)=w99 at *
  have HFI:=ι (show ∃ cv,Ending.returned (.tuple #[zeroC,.int .i64 (4)])=.returned (.tuple #[cv,.int .i64 (mkchk d ll)])∧ChAnsF w.heap.size w99 d ll cv (mkchk d ll)∧Below w.heap.size w w99 from
   ⟨_,by rw [HC.out],.inl ⟨by rw [HC.out]; decide,rfl⟩,hfz.2⟩)
  have HTT:=ι hfz.1;clear hfz;go_wp2;exact bodyPost_ret (results_cellC2 (p:=4) (u:=5) rfl _ rfl rfl HTT.out) rfl HFI.out
 have HC0:=ι (show mkchk d ll=Ma.gck d ll by unfold mkchk; rw [if_pos hd3,if_pos (by omega)]);have HG0:=ι (show Ma.gck d (ll.drop 0)=Ma.gck d ll by rw [List.drop_zero]);go_upto_region 3 with (fail);refine Rg.wl ?_;refine Rg.lm 17 (.slice ga ll.length gc) ?_;go_frame;refine Rg.lr 18 (exec_len _ _ _ rfl Try.underlying22 _ _ _ rfl) ?_;go_frame;refine Rg.lr 19 (exec_bin (R:=.bool false) .gtr _ _ _ rfl rfl rfl (b_gtr _ (decide_eq_false (by omega)))) ?_;go_frame;go_wp2
 go_loopw [6] (fun kv wr=>∃ k:Nat,kv=.int .i64 k∧k≤ll.length∧Hid (Below w1.heap.size w1 wr)∧Hid (Ma.gck d (ll.drop k)=Ma.gck d ll)) (fun kv _=>ll.length - (intOf kv).toNat)
 case atStart=>exact ⟨0,rfl,Nat.zero_le _,K1,HG0⟩
 case round =>
  clear K1 HG0;obtain ⟨k,rfl,hk,K1,HG0⟩:=hrel
  by_cases hkl:k<ll.length
  ·have hkN:(k:Int)<(ll.length:Int):=by omega
   have hgs:=HGS.out;obtain ⟨gb,go,rfl,hgb,hgk⟩:=hgs (by omega);obtain ⟨u,hcu,hxu⟩:=hgk k hkl;obtain ⟨x,hx⟩:∃ x,Hid (ll[k]=x):=⟨_,ι rfl⟩;rw [hx.out] at hxu;have CU:=ι (CL.mk ((KB.out.cell (p:=⟨gb,go+k,none⟩) hgb).trans hcu) (Nat.lt_of_lt_of_le hgb KB.out.size));have XU:=ι (Rg.Ints.below hxu KB.out);obtain ⟨xa,xc,rfl,_⟩:=hxu.shape;have HKL:=ι hkl;have hxl:=XU.out.len;have HXL:=ι (show x.length≤1000000000 by obtain ⟨n,a,c,e,_,e2⟩:=hxl; omega);clear hgs hgk hcu hxu hxl hgb;go_upto_region 8 with (fail);refine Rg.wl ?_;refine Rg.lm 27 (.slice (some ⟨gb,go,none⟩) ll.length gc) ?_;go_frame;refine Rg.lm 28 (.int .i64 ((k:Nat):Int)) ?_;go_frame;refine Rg.lr 29 (exec_indexS slPerms _ _ rfl gb (go) (ll.length) gc (k) rfl rfl HKL.out) ?_;go_frame;refine Rg.lr 30 (Rg.exec_load (v:=.slice xa x.length xc) _ _ rfl ⟨gb,go+k,none⟩ rfl (Rg.run_loadSl _ _ Try.underlying39 ((Below.cell (p:=⟨gb,go+k,none⟩) K1.out CU.out.lt).trans CU.out.cell))) ?_;go_frame
   refine list_ask (some 31) rfl rfl _ _ (exec_fn1 51 _ _ rfl rfl (Wpcl0 _ _)) ?_;refine (refPermCheck_any _ _ wr (XU.out.below K1.out)).mono ?_;rintro e1 w11 ⟨rfl,hb⟩;refine ⟨_,rfl,?_⟩;go_frame;replace K1:=ι (Rg.acc K1.out hb);clear hb;refine Rg.la 7 (.int .i64 (Ma.pchk x)) ?_;go_frame
   by_cases hp0:Ma.pchk x=0
   ·by_cases hxd:(x.length:Int)=d
    ·skip
     go_upto_region 9 with (fail);refine Rg.wl ?_;refine Rg.lm 32 (.int .i64 (Ma.pchk x)) ?_;go_frame;refine Rg.lr 33 (exec_bin (R:=.bool false) .neq _ _ _ rfl rfl rfl (b_neqB _ (decide_eq_false (by omega)))) ?_;go_frame;go_upto_region 11 with (fail);refine Rg.wl ?_;refine Rg.lm 36 (.slice (some ⟨gb,go,none⟩) ll.length gc) ?_;go_frame;refine Rg.lm 37 (.int .i64 ((k:Nat):Int)) ?_;go_frame;refine Rg.lr 38 (exec_indexS slPerms _ _ rfl gb (go) (ll.length) gc (k) rfl rfl HKL.out) ?_;go_frame;refine Rg.lr 39 (Rg.exec_load (v:=.slice xa x.length xc) _ _ rfl ⟨gb,go+k,none⟩ rfl (Rg.run_loadSl _ _ Try.underlying39 ((Below.cell (p:=⟨gb,go+k,none⟩) K1.out CU.out.lt).trans CU.out.cell))) ?_;go_frame;refine Rg.lr 40 (exec_len _ _ _ rfl Try.underlying39 _ _ _ rfl) ?_;go_frame;refine Rg.lm 41 (.int .i64 d) ?_;go_frame;refine Rg.lr 42 (exec_bin (R:=.bool false) .neq _ _ _ rfl rfl rfl (b_neqB _ (decide_eq_false (by omega)))) ?_;go_frame
     have HG1:=ι (show Ma.gck d (ll.drop (k+1))=Ma.gck d ll by rw [← Ma.gck_next HKL.out (by rw [hx.out]; exact hp0) (by rw [hx.out]; exact hxd)]; exact HG0.out);go_wp2
     go_roundw
     case rel=>exact ⟨k+1,by go_num,HKL.out,K1,HG1⟩
     case measure=>simp [intOf]; have:=HKL.out; omega
    ·have HC:=ι (show mkchk d ll=10 by rw [HC0.out,← HG0.out]; exact Ma.gck_len HKL.out (by rw [hx.out]; exact hp0) (by rw [hx.out]; exact hxd))
     go_upto_region 9 with (fail);refine Rg.wl ?_;refine Rg.lm 32 (.int .i64 (Ma.pchk x)) ?_;go_frame;refine Rg.lr 33 (exec_bin (R:=.bool false) .neq _ _ _ rfl rfl rfl (b_neqB _ (decide_eq_false (by omega)))) ?_;go_frame;go_upto_region 11 with (fail);refine Rg.wl ?_;refine Rg.lm 36 (.slice (some ⟨gb,go,none⟩) ll.length gc) ?_;go_frame;refine Rg.lm 37 (.int .i64 ((k:Nat):Int)) ?_;go_frame;refine Rg.lr 38 (exec_indexS slPerms _ _ rfl gb (go) (ll.length) gc (k) rfl rfl HKL.out) ?_;go_frame;refine Rg.lr 39 (Rg.exec_load (v:=.slice xa x.length xc) _ _ rfl ⟨gb,go+k,none⟩ rfl (Rg.run_loadSl _ _ Try.underlying39 ((Below.cell (p:=⟨gb,go+k,none⟩) K1.out CU.out.lt).trans CU.out.cell))) ?_;go_frame;refine Rg.lr 40 (exec_len _ _ _ rfl Try.underlying39 _ _ _ rfl) ?_;go_frame;refine Rg.lm 41 (.int .i64 d) ?_;go_frame;refine Rg.lr 42 (exec_bin (R:=.bool true) .neq _ _ _ rfl rfl rfl (b_neqB _ (decide_eq_true (by omega)))) ?_;go_frame
     have FT2:=ι (FT.out.below K1.out);have KX:=ι (KB.out.trans (K1.out.mono KB.out.size));go_upto_region 12 with (fail);refine Rg.wl ?_;refine Rg.lr 43 (exec_buildC0 rfl) ?_;go_frame;refine Rg.list_skip none rfl rfl (Rg.exec_store _ _ _ rfl _ rfl _ rfl (run_storeC _ _ _ _ _ _ _ FT2.out)) ?_;go_frame;refine Rg.la 5 (.int .i64 ((10:Nat):Int)) ?_;go_frame;have hfz:=fin_zero FT2.out KX.out (Nat.le_refl _);generalize ((w11.setCell ⟨w.heap.size,0,none⟩ (.int .i64 0)).setCell ⟨w.heap.size,1,none⟩ (.slice none 0 0)).setCell ⟨w.heap.size,2,none⟩ (.slice none 0 0)=w99 at *
     have HFI:=ι (show ∃ cv,Ending.returned (.tuple #[zeroC,.int .i64 (10)])=.returned (.tuple #[cv,.int .i64 (mkchk d ll)])∧ChAnsF w.heap.size w99 d ll cv (mkchk d ll)∧Below w.heap.size w w99 from
      ⟨_,by rw [HC.out],.inl ⟨by rw [HC.out]; decide,rfl⟩,hfz.2⟩)
     have HTT:=ι hfz.1;clear hfz;go_wp2;exact bodyPost_ret (results_cellC2 (p:=4) (u:=5) rfl _ rfl rfl HTT.out) rfl HFI.out
   ·have HC:=ι (show mkchk d ll=Ma.pchk x by rw [HC0.out,← HG0.out,Ma.gck_bad HKL.out (by rw [hx.out]; exact hp0),hx.out])
    go_upto_region 9 with (fail);refine Rg.wl ?_;refine Rg.lm 32 (.int .i64 (Ma.pchk x)) ?_;go_frame;refine Rg.lr 33 (exec_bin (R:=.bool true) .neq _ _ _ rfl rfl rfl (b_neqB _ (decide_eq_true (by omega)))) ?_;go_frame;have FT2:=ι (FT.out.below K1.out);have KX:=ι (KB.out.trans (K1.out.mono KB.out.size));go_upto_region 10 with (fail);refine Rg.wl ?_;refine Rg.lr 34 (exec_buildC0 rfl) ?_;go_frame;refine Rg.lm 35 (.int .i64 (Ma.pchk x)) ?_;go_frame;refine Rg.list_skip none rfl rfl (Rg.exec_store _ _ _ rfl _ rfl _ rfl (run_storeC _ _ _ _ _ _ _ FT2.out)) ?_;go_frame;refine Rg.la 5 (.int .i64 (Ma.pchk x)) ?_;go_frame;have hfz:=fin_zero FT2.out KX.out (Nat.le_refl _);generalize ((w11.setCell ⟨w.heap.size,0,none⟩ (.int .i64 0)).setCell ⟨w.heap.size,1,none⟩ (.slice none 0 0)).setCell ⟨w.heap.size,2,none⟩ (.slice none 0 0)=w99 at *
    have HFI:=ι (show ∃ cv,Ending.returned (.tuple #[zeroC,.int .i64 (Ma.pchk x)])=.returned (.tuple #[cv,.int .i64 (mkchk d ll)])∧ChAnsF w.heap.size w99 d ll cv (mkchk d ll)∧Below w.heap.size w w99 from
     ⟨_,by rw [HC.out],.inl ⟨by rw [HC.out]; exact hp0,rfl⟩,hfz.2⟩)
    have HTT:=ι hfz.1;clear hfz;go_wp2;exact bodyPost_ret (results_cellC2 (p:=4) (u:=5) rfl _ rfl rfl HTT.out) rfl HFI.out
  ·obtain rfl:k=ll.length:=by omega
   have hkN:¬ (ll.length:Int)<(ll.length:Int):=by omega
   have hz:=HG0.out;rw [Ma.gck_end (Nat.le_refl _)] at hz;obtain ⟨n,gs,hdn,hll,hgd,hn1,hn2,hgl⟩:=mk_ok hd3.1 hd3.2 hz.symm;have HLL:=ι hll;have HGL:=ι hgl;have HGD:=ι hgd;have HC:=ι (show mkchk d ll=0 by rw [HC0.out]; exact hz.symm);subst hdn;have FT2:=ι (FT.out.below K1.out);have KX:=ι (KB.out.trans (K1.out.mono KB.out.size));have GR:=ι (Rg.Rows.below G0.out K1.out);clear hll hgl hgd hz;have HWD:=ι FT2.out.lt;have KXB:=KX;have hgs0:GS (fun k=>k<wr.heap.size) wr (.slice ga ll.length gc) gs:=GS.of_rows (by have:=GR.out; rw [show gs.map Ma.ofN=ll from HLL.out.symm]; exact this);go_upto_region 13 with (fail);refine Rg.wl ?_;refine Rg.lm 44 (.int .i64 ((n:Nat):Int)) ?_;go_frame;refine list_ask (some 45) rfl rfl _ _ (exec_fn1 53 _ _ rfl rfl (Wpcl1 _ _)) ?_;refine (empty_b hn1 hn2 wr).mono ?_;rintro e1 w61 ⟨tb,tc,F0,Rb,rfl,hkg,htab,hb⟩;have GE:=ι (hgs0.kg hkg)
   have TE:=ι htab;have KGA:=ι hkg;clear hkg htab hgs0;refine ⟨_,rfl,?_⟩;go_frame;replace FT2:=ι (FT2.out.below hb);replace GR:=ι (GR.out.below hb);replace KX:=ι (Rg.acc KX.out hb);clear hb;refine Rg.la 8 (.slice (some ⟨tb,0,none⟩) n tc) ?_;go_frame;obtain ⟨wB,hwB⟩:∃ W,Hid (W=wr):=⟨_,ι rfl⟩;rw [← hwB.out] at KGA HWD KXB;clear hwB GR;have KE:=ι (KG.refl TE.out.Flt);have OK0:=ι (Cm.TabOk.nil0 (n:=n) (gs:=(·∈gs)));have HS0:=ι (show ∀ a (h:a<gs.length),a<0→Cm.Sd n (Cm.idT n (fun _ _=>none)) n gs[a] from fun a _ h=>absurd h (Nat.not_lt_zero _));have HGN:=HGL;go_wp2
   go_loopw [9] (fun jv wr=>∃ (j:Nat) (F1:Nat→Prop) (V:Nat→Nat→Value) (tr:Tr),jv=.int .i64 j∧j≤ll.length∧Hid (TabAt F1 tb 0 n wr tr Rb V)∧Hid (KG F0 w61 F1 wr)∧Hid (TabOk n (·∈gs) tr)∧Hid (∀ a (h:a<gs.length),a<j→Cm.Sd n (Cm.idT n tr) n gs[a])) (fun jv _=>ll.length - (intOf jv).toNat)
   case atStart=>exact ⟨0,_,_,_,rfl,Nat.zero_le _,TE,KE,OK0,HS0⟩
   case round =>
    clear TE KE OK0 HS0;obtain ⟨j,F,V,tr,rfl,hj,HT,KE,OK,HS⟩:=hrel
    by_cases hjl:j<ll.length
    ·have hjN:(j:Int)<(ll.length:Int):=by omega
     have HJL:=ι hjl
     have hjg:j<gs.length:=by have:=HGN.out; omega
     have HJG:=ι hjg
     have hga:∃ gb go,ga=some ⟨gb,go,none⟩:=by
      obtain ⟨a,c,e,h1⟩:=GE.out;obtain ⟨b,o,e2,_⟩:=h1 (by omega)
      injection e with e _ _
      exact ⟨b,o,e.trans e2⟩
     obtain ⟨gb,go,rfl⟩:=hga;obtain ⟨u,hcu,hxu⟩:=GE.out.at hjg;obtain ⟨x,hx⟩:∃ x:List Nat,Hid (gs[j]'hjg=x):=⟨_,ι rfl⟩
     replace hxu:FP F0 w61 u x:=by rw [← hx.out]; exact hxu
     have GX:=ι (show Cm.Gd n x by rw [← hx.out]; exact HGD.out _ (List.getElem_mem hjg));have hgx:Cm.Gr n (·∈gs) x:=.gen _ (by rw [← hx.out]; exact List.getElem_mem hjg);have CU:=ι (hcu.kg KE.out);have XU:=ι (hxu.kg KE.out);have hins:=tab_ins HGD.out OK.out hgx;clear hcu hxu hgx;go_upto_region 17 with (fail);refine Rg.wl ?_;refine Rg.lm 52 (.slice (some ⟨tb,0,none⟩) n tc) ?_;go_frame;refine Rg.lm 53 (.slice (some ⟨gb,go,none⟩) ll.length gc) ?_;go_frame;refine Rg.lm 54 (.int .i64 ((j:Nat):Int)) ?_;go_frame;refine Rg.lr 55 (exec_indexS slPerms _ _ rfl gb (go) (ll.length) gc (j) rfl rfl HJL.out) ?_;go_frame;refine Rg.lr 56 (Rg.exec_load (v:=u) _ _ rfl ⟨gb,go+j,none⟩ rfl (Rg.run_loadSl _ _ Try.underlying39 CU.out.cell)) ?_;go_frame;refine list_ask (some 57) rfl rfl _ _ (exec_fn 54 _ _ _ rfl rfl rfl (Wlcl2 _ _)) ?_;refine (insert_any hn1 hn2 HT.out OK.out.rp XU.out GX.out).mono ?_
     rintro e1 w81 ⟨F9,V9,rfl,hki,htab⟩;have hkg:=hki.kg;refine ⟨_,rfl,?_⟩;go_frame;clear HT;clear CU;clear XU;replace KE:=ι (KE.out.trans hkg);have HT:=ι htab;clear hkg;clear hki htab;generalize insT n tr (Cm.sfP n (Cm.idT n tr) n x)=tr2 at *;have OK2:=ι hins.1
     have HS2:=ι (show ∀ a (h:a<gs.length),a<j+1→Cm.Sd n (Cm.idT n tr2) n gs[a] from fun a h ha=>by
      by_cases e:a=j
      ·subst e
       rw [show gs[a]=x from hx.out]; exact hins.2.2.1
      ·exact Cm.Sd.mono (fun i p u _=>hins.2.1 i p u) (HS.out a h (by omega)))
     clear hins;go_wp2
     go_roundw
     case rel=>exact ⟨j+1,_,_,_,by go_num,HJL.out,HT,KE,OK2,HS2⟩
     case measure=>simp [intOf]; have:=HJL.out; omega
    ·obtain rfl:j=ll.length:=by omega
     have hjN:¬ (ll.length:Int)<(ll.length:Int):=by omega
     have HSA:=ι (show ∀ s,s∈gs→Cm.Sd n (Cm.idT n tr) n s from fun s hs=>by
      obtain ⟨a,ha,rfl⟩:=List.getElem_of_mem hs
      exact HS.out a ha (by have:=HGN.out; omega))
     go_upto_region 18 with (fail);refine Rg.wl ?_;refine Rg.lm 58 (.slice (some ⟨tb,0,none⟩) n tc) ?_;go_frame;refine list_ask (some 59) rfl rfl _ _ (exec_fn1 55 _ _ rfl rfl (Wpcl3 _ _)) ?_;refine (rclose_any hn1 hn2 HT.out HGD.out OK.out HSA.out).mono ?_;rintro e1 w91 ⟨F9,V9,tr9,rfl,hkg,htab,hok9,htr9⟩;have OK9:=ι hok9;have TR9:=ι htr9;clear hok9 htr9;refine ⟨_,rfl,?_⟩;go_frame;clear HT;replace KE:=ι (KE.out.trans hkg);have HT:=ι htab;clear hkg;clear htab;have hbk:Below wB.heap.size wB w91:=(KGA.out.trans KE.out).kf.below (Nat.le_refl _) (fun _ h=>h);have hbe:Below wB.heap.size wB w61:=KGA.out.kf.below (Nat.le_refl _) (fun _ h=>h);have FT3:=ι (show Tri w91 w.heap.size (.int .i64 0) (.slice none 0 0) (.slice none 0 0) from FT2.out.kp KE.out.kf (fun h=>h (KGA.out.sub _ HWD.out)));have KY:=ι (show Below w.heap.size w w91 from (KXB.out.trans (hbk.mono KXB.out.size)))
     clear hbk hbe FT2 KX KE KGA;go_upto_region 19 with (fail);refine Rg.wl ?_;refine Rg.lm 60 (.slice (some ⟨tb,0,none⟩) n tc) ?_;go_frame;have HWB:=ι FT3.out.lt;refine list_ask (some 61) rfl rfl _ _ (exec_fn1 56 _ _ rfl rfl (Wpcl4 _ _)) ?_;refine (rchain_any hn1 hn2 HT.out HGD.out OK9.out TR9.out).mono ?_;rintro e1 w92 ⟨ov,rv,O,R,rfl,hO,hR,hCh,hb⟩;have HWC:=ι (Nat.lt_of_lt_of_le HWB.out hb.size);obtain ⟨oa,oc,rfl,_⟩:=hO.rows.shape;obtain ⟨ra,rc,rfl⟩:=hR.rows.shape;have HO:=ι hO;have HR:=ι hR;have HCH:=ι hCh;clear hO hR hCh;refine ⟨_,rfl,?_⟩;go_frame;replace FT3:=ι (FT3.out.below hb);replace HT:=ι (HT.out.below hb);replace KY:=ι (Rg.acc KY.out hb);clear hb;refine Rg.list_skip none rfl rfl (Rg.exec_store _ _ _ rfl _ rfl _ rfl (run_storeC _ _ _ _ _ _ _ FT3.out)) ?_;go_frame;refine Rg.la 5 (.int .i64 ((0:Nat):Int)) ?_;go_frame;have htt:=FT3.out.set (.int .i64 ((n:Nat):Int)) (.slice oa (O.map Ma.ofN).length oc) (.slice ra (R.map (List.map Ma.ofN)).length rc)
     have hkt:=Rg.Kp.trans (Rg.Kp.trans (Rg.Kp.of_setCell (M:=fun z=>z=w.heap.size) (w:=w92) (a:=⟨w.heap.size,0,none⟩) (v:=.int .i64 ((n:Nat):Int)) rfl) (Rg.Kp.of_setCell (M:=fun z=>z=w.heap.size) (a:=⟨w.heap.size,1,none⟩) (v:=(.slice oa (O.map Ma.ofN).length oc)) rfl) (fun _ _ e=>e)) (Rg.Kp.of_setCell (M:=fun z=>z=w.heap.size) (a:=⟨w.heap.size,2,none⟩) (v:=(.slice ra (R.map (List.map Ma.ofN)).length rc)) rfl) (fun _ _ e=>e);have hro:=FRows.mono (F':=fun z=>w.heap.size≤z) (FRows.kp HO.out hkt (fun z g e=>by have:=HWB.out; omega)) (fun z hz=>by have:=HWB.out; omega);have hrr:=(HR.out.kp hkt (fun z g e=>by have:=HWB.out; omega)).mono (F':=fun z=>w.heap.size≤z) (fun z hz=>by have:=HWB.out; omega);have hkf:=((KY.out.setCell (p:=⟨w.heap.size,0,none⟩) (Nat.le_refl _) (.int .i64 ((n:Nat):Int))).setCell (p:=⟨w.heap.size,1,none⟩) (Nat.le_refl _) (.slice oa (O.map Ma.ofN).length oc)).setCell (p:=⟨w.heap.size,2,none⟩) (Nat.le_refl _) (.slice ra (R.map (List.map Ma.ofN)).length rc)
     generalize ((w92.setCell ⟨w.heap.size,0,none⟩ (.int .i64 ((n:Nat):Int))).setCell ⟨w.heap.size,1,none⟩ (.slice oa (O.map Ma.ofN).length oc)).setCell ⟨w.heap.size,2,none⟩ (.slice ra (R.map (List.map Ma.ofN)).length rc)=w99 at *;have HTT:=ι htt
     have HFI:=ι (show ∃ cv,Ending.returned (.tuple #[.agg #[.int .i64 ((n:Nat):Int),(.slice oa (O.map Ma.ofN).length oc),(.slice ra (R.map (List.map Ma.ofN)).length rc)],.int .i64 0])=.returned (.tuple #[cv,.int .i64 (mkchk ((n:Nat):Int) ll)])∧ChAnsF w.heap.size w99 ((n:Nat):Int) ll cv (mkchk ((n:Nat):Int) ll)∧Below w.heap.size w w99 from
      ⟨_,by rw [HC.out],.inr ⟨HC.out,n,gs,rfl,HLL.out,hn1,hn2,_,_,O,R,rfl,hro,hrr,HCH.out⟩,hkf⟩)
     clear htt hkt hro hrr hkf;go_wp2;exact bodyPost_ret (results_cellC2 (p:=4) (u:=5) rfl _ rfl rfl HTT.out) rfl HFI.out
end Go.Proofs.Ythehbckogieimaa

namespace Go.Proofs.Ythehbckogieimaa
open Go.RowKit
open Go.Proofs
open Go.Proofs.Ob
attribute [local irreducible] Go.Calls Go.wpList
def ChEqR (w:World) (ov rv:Value) (OO:List (List Int)) (RR:List (List (List Int))):Prop:=Rg.Rows w ov OO∧Rows2 w rv RR
theorem ChEqR.below {w w':World} {ov rv:Value} {OO:List (List Int)} {RR:List (List (List Int))} (h:ChEqR w ov rv OO RR) (hb:Below w.heap.size w w'):ChEqR w' ov rv OO RR:=⟨h.1.below hb,h.2.below hb⟩
end Go.Proofs.Ythehbckogieimaa

namespace Go.Proofs.RF
open Go Go.RowKit
def Dfr (D:Nat) (W:World):Prop:=W.heap[D]?=some (.deferred (some []))
theorem Dfr.size {D:Nat} {W:World} (h:Dfr D W):D<W.heap.size:=(Array.getElem?_eq_some_iff.1 h).1
theorem Dfr.alloc {D:Nat} {W:World} (h:Dfr D W) (o:Obj):Dfr D (W.alloc o):=(Below.heap_alloc W o D h.size).trans h
theorem Dfr.drew {D:Nat} {W:World} (h:Dfr D W):Dfr D W.drew:=h
theorem Dfr.setCell {D:Nat} {W:World} (h:Dfr D W) (a:Addr) (v:Value):Dfr D (W.setCell a v) :=
 (KeepsOthers.setCell W a v).same D _ h rfl
theorem Dfr.cell {D:Nat} {o:Option (List Deferred)} {W:World} (h:Dfr D W) (a:Addr):(W.putObj D (.deferred o)).cell? a=W.cell? a:=by
 unfold World.cell?
 by_cases e:a.block=D
 ·rw [e,World.putObj_heap_same h.size,show W.heap[D]?=_ from h]
 ·rw [World.putObj_heap_other e]
theorem Dfr.frozen {D:Nat} {o:Option (List Deferred)} {W:World} (h:Dfr D W) (a:Addr):(W.putObj D (.deferred o)).frozen? a=W.frozen? a:=by
 unfold World.frozen?
 by_cases e:a.block=D
 ·rw [e,World.putObj_heap_same h.size,show W.heap[D]?=_ from h]
 ·rw [World.putObj_heap_other e]
def mark (D:Nat):Deferred:={ target:=.collected D,args:=#[] }
theorem leaves {n:Nat} {P:Program} {fn:Func} {tmps:Array Value} {R:Ending→World→Prop} (B:Nat):∀ (ds:List Nat) (W:World),ds.Nodup→(∀ D,D∈ds→Dfr D W∧B≤D) →
  (∀ W',Below B W W'→(∀ a,W'.cell? a=W.cell? a)→(∀ a,W'.frozen? a=W.frozen? a)→∃ v,(results fn tmps).run P W'=.ok v W'∧R (.returned v) W') →
  LeavesInM Fence.wide n P fn tmps R (ds.map mark) .returning W
 | [],W,_,_,h=>h W (Below.refl _ _) (fun _=>rfl) (fun _=>rfl)
 | D :: ds,W,hn,hD,h=>by
  rw [List.nodup_cons] at hn;obtain ⟨hd,hB⟩:=hD D (by simp);have hb:Below B W (W.putObj D (.deferred none)):=⟨rfl,rfl,rfl,by simp,fun k hk=>World.putObj_heap_other (by omega)⟩;refine ⟨by simp,.inl ⟨D,_,rfl,run_takeDeferred hd,leaves B ds _ hn.2 (fun D' hD'=>?_) (fun W' h1 h2 h3=>?_)⟩⟩
  ·refine ⟨(World.putObj_heap_other ?_).trans (hD D' (by simp [hD'])).1,(hD D' (by simp [hD'])).2⟩
   intro e; exact hn.1 (e▸hD')
  ·exact h W' (hb.trans h1) (fun a=>(h2 a).trans (hd.cell a)) (fun a=>(h3 a).trans (hd.frozen a))
end Go.Proofs.RF
namespace Go.Proofs.Ythehbckogieimaa
open Go.RowKit
open Go.Proofs
open Go.Shelf
attribute [local irreducible] Go.Calls Go.wpList
end Go.Proofs.Ythehbckogieimaa

namespace Go.Proofs.Ythehbckogieimaa
open Go.Proofs
open Go.Proofs.Cm (Gr Gd IsChain IsG St)
theorem asc_len {l:List Nat} {a b:Nat} (h:l.Pairwise (· < ·)) (hr:∀ x∈l,a≤x∧x<b):l.length≤b - a:=by
 have h1:l.Nodup:=h.imp (fun {x y} hlt e=>by omega)
 have h2:=nodup_le (m:=List.range' a (b - a)) h1 (fun x hx=>by
  have:=hr x hx;rw [List.mem_range'_1]
  omega)
 rwa [List.length_range'] at h2
theorem getD_inf {α:Type} {l:List (List α)} {i:Nat} (h:i<l.length):l.getD i []=l[i]:=by rw [List.getD_eq_getElem?_getD,List.getElem?_eq_getElem h]; rfl
theorem chain_len {n:Nat} {H:List Nat→Prop} (hH:IsG n H) {O:List (List Nat)} {R:List (List (List Nat))} (h:IsChain n H O R) {i:Nat} (hi:i<n):(O.getD i []).length≤n - i:=by
 refine asc_len (h.asc i hi) fun p hp=>?_;obtain ⟨x,hx,rfl⟩:=(h.orb i p hi).1 hp;have gx:=hH.gd x hx.1;refine ⟨Nat.le_of_not_lt fun hlt=>?_,Cm.ap_lt gx hi⟩;have e:=hx.2 _ hlt;have:=Cm.ap_inj gx (Nat.lt_trans hlt hi) hi e;omega
theorem map_ofN_inj:∀ {a b:List (List Nat)},a.map Ma.ofN=b.map Ma.ofN→a=b
 | [],[],_=>rfl
 | [],_ :: _,h=>by simp at h
 | _ :: _,[],h=>by simp at h
 | x :: a,y :: b,h=>by
  simp only [List.map_cons,List.cons.injEq] at h;rw [Ma.ofN_inj h.1,map_ofN_inj h.2]
end Go.Proofs.Ythehbckogieimaa

namespace Go.Proofs.Ythehbckogieimaa
open Go.RowKit
open Go.Proofs
open Go.Proofs.Ob
open Go.Shelf
open Go.Proofs.Cm (Lv Twr trOf)
attribute [local go_sem] Oper.semAt_some
attribute [local irreducible] Go.Calls Go.wpList Go.wpListIn
theorem exec_allocI {o:Oper} {a:Act} {w:World} (ho:o.op=.alloc 3):(execOp a.eval o).run Try.prog w=.ok (.value (.pointer (some ⟨w.heap.size,0,none⟩))) (w.alloc (.cells #[.int .i64 0] 3)):=by
 obtain ⟨i0,hi,hz0,hz1,hz2⟩:=info_parts intsInfo;unfold execOp;simp [ho,Instr.alloc,typeInfo,zeroValue,hi,hz0,newVar,Value.cells,Result.andThen];rfl
theorem run_loadC3 {w:World} {b:Nat} {x y z:Value} (h0:w.cell? ⟨b,0,none⟩=some x) (h1:w.cell? ⟨b,1,none⟩=some y) (h2:w.cell? ⟨b,2,none⟩=some z):(loadVar 33 ⟨b,0,none⟩).run Try.prog w=.ok (.agg #[x,y,z]) w:=by
 obtain ⟨i0,hi,hz0,hz1,hz2⟩:=info_parts infoChain
 have ha0:(⟨b,0,none⟩:Addr).add 0=⟨b,0,none⟩:=by simp [Addr.add]
 have ha1:(⟨b,0,none⟩:Addr).add 1=⟨b,1,none⟩:=by simp [Addr.add]
 have ha2:(⟨b,0,none⟩:Addr).add 2=⟨b,2,none⟩:=by simp [Addr.add]
 have hg:(isAgg 33).run Try.prog w=.ok true w:=by kernel_rfl
 simp [loadVar,hg,sizeOf,typeInfo,hi,hz1,loadCells,loadCellsFrom,load,ha0,ha1,ha2];simp [Sem.run,h0,h1,h2]
structure CW (w:World) (b:Nat) (v:Value):Prop where
 c:w.cell? ⟨b,0,none⟩=some v
 f:w.frozen? ⟨b,0,none⟩=false
 lt:b<w.heap.size
theorem CW.below {w w':World} {b:Nat} {v:Value} (h:CW w b v) (hb:Below w.heap.size w w'):CW w' b v:=⟨(hb.cell (p:=⟨b,0,none⟩) h.lt).trans h.c,(hb.frozen (p:=⟨b,0,none⟩) h.lt).trans h.f,Nat.lt_of_lt_of_le h.lt hb.size⟩
theorem CW.new (w:World) (v:Value) (t:TypeId):CW (w.alloc (.cells #[v] t)) w.heap.size v:=⟨by rw [Rg.cellNew]; rfl,frozenNewN _ _ _ 0 _,by simp⟩
theorem CW.set {w:World} {b:Nat} {u:Value} (h:CW w b u) (v:Value):CW (w.setCell ⟨b,0,none⟩ v) b v:=⟨World.cell?_setCell_same (h:=h.c) ..,by rw [World.frozen?_setCell]; exact h.f,by simpa using h.lt⟩
theorem CW.other {w:World} {b b' o:Nat} {u:Value} (h:CW w b u) (v:Value) (hne:b≠b'):CW (w.setCell ⟨b',o,none⟩ v) b u:=⟨by rw [World.cell?_setCell_other (h:=by intro e; injection e with e1 e2; omega) ..]; exact h.c,by rw [World.frozen?_setCell]; exact h.f,by simpa using h.lt⟩
theorem CL.other {w:World} {b b' o o':Nat} {u:Value} (h:CL w b o' u) (v:Value) (hne:b≠b'):CL (w.setCell ⟨b',o,none⟩ v) b o' u:=⟨by rw [World.cell?_setCell_other (h:=by intro e; injection e with e1 e2; omega) ..]; exact h.cell,by simpa using h.lt⟩
theorem CW.kp {M:Nat→Prop} {w w':World} {b:Nat} {v:Value} (h:CW w b v) (hk:Rg.Kp M w w') (hM:¬ M b):CW w' b v :=
 ⟨(World.cell?_of_block (a:=⟨b,0,none⟩) (hk.block b h.lt hM)).trans h.c,(World.frozen?_of_block (a:=⟨b,0,none⟩) (hk.block b h.lt hM)).trans h.f,Nat.lt_of_lt_of_le h.lt hk.size⟩
theorem CL.kp {M:Nat→Prop} {w w':World} {b o:Nat} {v:Value} (h:CL w b o v) (hk:Rg.Kp M w w') (hM:¬ M b):CL w' b o v :=
 ⟨(World.cell?_of_block (a:=⟨b,o,none⟩) (hk.block b h.lt hM)).trans h.cell,Nat.lt_of_lt_of_le h.lt hk.size⟩
theorem CW.upto {B:Nat} {w w':World} {b:Nat} {v:Value} (h:CW w b v) (hb:Below B w w') (hB:b<B):CW w' b v:=⟨(hb.cell (p:=⟨b,0,none⟩) hB).trans h.c,(hb.frozen (p:=⟨b,0,none⟩) hB).trans h.f,Nat.lt_of_lt_of_le h.lt hb.size⟩
theorem CL.upto {B:Nat} {w w':World} {b o:Nat} {v:Value} (h:CL w b o v) (hb:Below B w w') (hB:b<B):CL w' b o v:=⟨(hb.cell (p:=⟨b,o,none⟩) hB).trans h.cell,Nat.lt_of_lt_of_le h.lt hb.size⟩
theorem ChEqR.mk {w:World} {ov rv:Value} {OO:List (List Int)} {RR:List (List (List Int))} (h1:Rg.Rows w ov OO) (h2:Rows2 w rv RR):ChEqR w ov rv OO RR:=⟨h1,h2⟩
theorem ChEqR.upto {w w':World} {ov rv:Value} {OO:List (List Int)} {RR:List (List (List Int))} (h:ChEqR w ov rv OO RR) (hb:Below w.heap.size w w'):ChEqR w' ov rv OO RR:=h.below hb
end Go.Proofs.Ythehbckogieimaa

namespace Go.Proofs.Ythehbckogieimaa
open Go.Proofs
open Go.Proofs.Cm (Gr Gd IsChain IsG IsTr St Tr Sd Fx ap)
structure TE where
 i:Nat
 p:Nat
 u:List Nat
 w:List Nat
end Go.Proofs.Ythehbckogieimaa

namespace Go.Proofs.Ythehbckogieimaa
open Go.RowKit
open Go.Proofs
open Go.Proofs.Ob
attribute [local irreducible] Go.Calls Go.wpList
theorem RowsB.low {B:Nat} {w w':World} {v:Value} {ll:List (List Int)} (h:Rg.RowsB B w v ll) (hb:Below w.heap.size w w'):Rg.RowsB B w' v ll:=h.below hb
def bg (d:Int) (ll:List (List Int)):Bool:=lg ll || (decide (12<d) && decide (d≤64))
theorem SameChain_ans {va vb:Value} {d:Int} {ll:List (List Int)} {c:Int} {w:World} (h1:ChAns w d ll va c) (h2:ChAns w d ll vb c) :
  Calls Try.prog 13 #[va,vb] w fun e w'=>e=.returned (.bool true)∧Below w.heap.size w w':=by
 obtain ⟨n,OO,RR,q1,q2⟩:=ChAns.eq h1 h2;exact SameChain_b q1 q2
end Go.Proofs.Ythehbckogieimaa

namespace Go.Proofs.Ythehbckogieimaa
open Go.RowKit
open Go.Proofs
open Go.Proofs.Cm (Gd Gr IsChain)
attribute [local irreducible] Go.Calls Go.wpList
def joinI (x y:List Int):List Int:=x++y.map (fun p=>p+(x.length:Int))
def jnN (x y:List Nat):List Nat:=x++y.map (fun p=>p+x.length)
def prL (L M:List (List Int)):List (List Int):=List.zipWith joinI L M
def prN (L M:List (List Nat)):List (List Nat):=List.zipWith jnN L M
def homC (d e:Int) (L M:List (List Int)):Int :=
 if Ma.gchk d L≠0 then Ma.gchk d L else if Ma.gchk e M≠0 then Ma.gchk e M else if L.length≠M.length then 4 else if 64<d+e then 5 else 0
theorem homC_1 {d e:Int} {L M:List (List Int)} (h:Ma.gchk d L≠0):homC d e L M=Ma.gchk d L:=by unfold homC; rw [if_pos h]
theorem homC_2 {d e:Int} {L M:List (List Int)} (h:Ma.gchk d L=0) (h2:Ma.gchk e M≠0):homC d e L M=Ma.gchk e M:=by unfold homC; rw [if_neg (fun q=>q h),if_pos h2]
theorem homC_3 {d e:Int} {L M:List (List Int)} (h:Ma.gchk d L=0) (h2:Ma.gchk e M=0) (h3:L.length≠M.length):homC d e L M=4:=by unfold homC; rw [if_neg (fun q=>q h),if_neg (fun q=>q h2),if_pos h3]
theorem homC_4 {d e:Int} {L M:List (List Int)} (h:Ma.gchk d L=0) (h2:Ma.gchk e M=0) (h3:L.length=M.length) (h4:64<d+e):homC d e L M=5:=by unfold homC; rw [if_neg (fun q=>q h),if_neg (fun q=>q h2),if_neg (fun q=>q h3),if_pos h4]
theorem homC_5 {d e:Int} {L M:List (List Int)} (h:Ma.gchk d L=0) (h2:Ma.gchk e M=0) (h3:L.length=M.length) (h4:¬ 64<d+e):homC d e L M=0:=by unfold homC; rw [if_neg (fun q=>q h),if_neg (fun q=>q h2),if_neg (fun q=>q h3),if_neg h4]
theorem homC_zero {d e:Int} {L M:List (List Int)} (h:homC d e L M=0):Ma.gchk d L=0∧Ma.gchk e M=0∧L.length=M.length∧d+e≤64:=by
 unfold homC at h
 by_cases h1:Ma.gchk d L=0
 ·rw [if_neg (fun q=>q h1)] at h
  by_cases h2:Ma.gchk e M=0
  ·rw [if_neg (fun q=>q h2)] at h
   by_cases h3:L.length=M.length
   ·rw [if_neg (fun q=>q h3)] at h
    by_cases h4:64<d+e
    ·rw [if_pos h4] at h; exact absurd h (by decide)
    ·exact ⟨h1,h2,h3,by omega⟩
   ·rw [if_pos h3] at h; exact absurd h (by decide)
  ·rw [if_pos h2] at h; exact absurd h h2
 ·rw [if_pos h1] at h; exact absurd h h1
theorem homC_swap {d e:Int} {L M:List (List Int)} (h:homC d e L M=0):homC e d M L=0:=by
 obtain ⟨h1,h2,h3,h4⟩:=homC_zero h;exact homC_5 h2 h1 h3.symm (by omega)
theorem jnN_gd {n m:Nat} {x y:List Nat} (hx:Gd n x) (hy:Gd m y):Gd (n+m) (jnN x y):=by
 have hl:(jnN x y).length=n+m:=by unfold jnN; rw [List.length_append,List.length_map,hx.2,hy.2]
 refine ⟨⟨fun z hz=>?_,?_⟩,hl⟩
 ·rw [hl]
  rcases List.mem_append.1 hz with h | h
  ·have:=hx.1.1 z h; have:=hx.2; omega
  ·obtain ⟨p,hp,rfl⟩:=List.mem_map.1 h
   have:=hy.1.1 p hp; have:=hx.2; have:=hy.2; omega
 ·unfold jnN
  rw [List.nodup_append];refine ⟨hx.1.2,?_,?_⟩
  ·rw [List.nodup_iff_pairwise_ne,List.pairwise_map]
   exact (List.nodup_iff_pairwise_ne.1 hy.1.2).imp fun hne e=>hne (by omega)
  ·intro a ha b hb e
   obtain ⟨p,hp,rfl⟩:=List.mem_map.1 hb;have:=hx.1.1 a ha;omega
theorem joinI_ofN (x y:List Nat):joinI (Ma.ofN x) (Ma.ofN y)=Ma.ofN (jnN x y):=by
 unfold joinI jnN Ma.ofN;rw [List.map_append,List.map_map,List.map_map,List.length_map]
 congr 1
theorem prL_ofN:∀ (A B:List (List Nat)),prL (A.map Ma.ofN) (B.map Ma.ofN)=(prN A B).map Ma.ofN
 | [],_=>by simp [prL,prN]
 | _ :: _,[]=>by simp [prL,prN]
 | x :: A,y :: B=>by
  have:=prL_ofN A B;unfold prL prN at *;rw [List.map_cons,List.map_cons,List.zipWith_cons_cons,List.zipWith_cons_cons,List.map_cons,this,joinI_ofN]
theorem gck_gd {D:Nat} (h1:1≤D) (h2:D≤64):∀ {gs:List (List Nat)},(∀ s∈gs,Gd D s)→Ma.gck ((D:Nat):Int) (gs.map Ma.ofN)=0
 | [],_=>rfl
 | s :: gs,h=>by
  have g:=h s (List.mem_cons_self ..);have e1:Ma.pchk (Ma.ofN s)=0:=Ma.pchk_ok (by rw [Ma.len_ofN,g.2]; exact h1) (by rw [Ma.len_ofN,g.2]; exact h2) (Ma.okN_ofN g.1)
  have e2:((Ma.ofN s).length:Int)=((D:Nat):Int):=by rw [Ma.len_ofN,g.2]
  show (if Ma.pchk (Ma.ofN s)=0 then (if ((Ma.ofN s).length:Int)=((D:Nat):Int) then Ma.gck ((D:Nat):Int) (gs.map Ma.ofN) else 10) else Ma.pchk (Ma.ofN s))=0;rw [if_pos e1,if_pos e2];exact gck_gd h1 h2 (fun x hx=>h x (List.mem_cons_of_mem _ hx))
theorem mem_prN {n m:Nat}:∀ {A B:List (List Nat)},(∀ s∈A,Gd n s)→(∀ s∈B,Gd m s)→∀ s∈prN A B,Gd (n+m) s
 | [],_,_,_,s,h=>by simp [prN] at h
 | _ :: _,[],_,_,s,h=>by simp [prN] at h
 | x :: A,y :: B,h1,h2,s,h=>by
  unfold prN at h;rw [List.zipWith_cons_cons] at h
  rcases List.mem_cons.1 h with rfl | h
  ·exact jnN_gd (h1 _ (List.mem_cons_self ..)) (h2 _ (List.mem_cons_self ..))
  ·exact mem_prN (fun s hs=>h1 s (List.mem_cons_of_mem _ hs)) (fun s hs=>h2 s (List.mem_cons_of_mem _ hs)) s h
structure HomG (d e:Int) (L M:List (List Int)) (n m:Nat) (A B:List (List Nat)):Prop where
 dn:d=((n:Nat):Int)
 em:e=((m:Nat):Int)
 la:L=A.map Ma.ofN
 mb:M=B.map Ma.ofN
 ga:∀ s∈A,Gd n s
 gb:∀ s∈B,Gd m s
 n1:1≤n
 m1:1≤m
 nm:n+m≤64
 len:A.length=B.length
 l16:A.length≤16
theorem homC_get {d e:Int} {L M:List (List Int)} (h:homC d e L M=0):∃ n m A B,HomG d e L M n m A B:=by
 obtain ⟨h1,h2,h3,h4⟩:=homC_zero h;obtain ⟨n,A,hd,hA,gA,n1,n2,l1⟩:=gchk_ok h1;obtain ⟨m,B,he,hB,gB,m1,m2,l2⟩:=gchk_ok h2;exact ⟨n,m,A,B,hd,he,hA,hB,gA,gB,n1,m1,by omega,by rw [hA,hB,List.length_map,List.length_map] at h3; exact h3,l1⟩
theorem HomG.mk0 {d e:Int} {L M:List (List Int)} {n m:Nat} {A B:List (List Nat)} (h:HomG d e L M n m A B):mkchk (d+e) (prL L M)=0:=by
 have hde:d+e=((n+m:Nat):Int):=by rw [h.dn,h.em]; omega
 unfold mkchk;rw [if_pos (by have:=h.n1; have:=h.nm; omega),h.la,h.mb,prL_ofN];rw [if_pos (by rw [List.length_map]; unfold prN; rw [List.length_zipWith]; have:=h.l16; omega),hde];exact gck_gd (by have:=h.n1; omega) h.nm (mem_prN h.ga h.gb)
theorem HomG.lens {d e:Int} {L M:List (List Int)} {n m:Nat} {A B:List (List Nat)} (h:HomG d e L M n m A B):(∀ l∈L,l.length=n)∧(∀ l∈M,l.length=m)∧L.length=M.length∧L.length≤16:=by
 refine ⟨fun l hl=>?_,fun l hl=>?_,?_,?_⟩
 ·rw [h.la] at hl
  obtain ⟨s,hs,rfl⟩:=List.mem_map.1 hl;rw [Ma.len_ofN]; exact (h.ga s hs).2
 ·rw [h.mb] at hl
  obtain ⟨s,hs,rfl⟩:=List.mem_map.1 hl;rw [Ma.len_ofN]; exact (h.gb s hs).2
 ·rw [h.la,h.mb,List.length_map,List.length_map]; exact h.len
 ·rw [h.la,List.length_map]; exact h.l16
open Classical in
noncomputable def pOR (D:Int) (ll:List (List Int)):List (List Nat) × List (List (List Nat)) :=
 if h:∃ OR:List (List Nat) × List (List (List Nat)),∃ (n:Nat) (gs:List (List Nat)),D=((n:Nat):Int)∧ll=gs.map Ma.ofN∧IsChain n (Gr n (·∈gs)) OR.1 OR.2 then h.choose else ([],[])
noncomputable def pO (D:Int) (ll:List (List Int)):List (List Int):=(pOR D ll).1.map Ma.ofN
noncomputable def pR (D:Int) (ll:List (List Int)):List (List (List Int)):=(pOR D ll).2.map (List.map Ma.ofN)
theorem pOR_eq {n:Nat} {gs O:List (List Nat)} {R:List (List (List Nat))} (h:IsChain n (Gr n (·∈gs)) O R):pOR ((n:Nat):Int) (gs.map Ma.ofN)=(O,R):=by
 have hx:∃ OR:List (List Nat) × List (List (List Nat)),∃ (n':Nat) (gs':List (List Nat)),((n:Nat):Int)=((n':Nat):Int)∧gs.map Ma.ofN=gs'.map Ma.ofN∧IsChain n' (Gr n' (·∈gs')) OR.1 OR.2:=⟨(O,R),n,gs,rfl,rfl,h⟩;unfold pOR;rw [dif_pos hx];obtain ⟨n',gs',e1,e2,e3⟩:=hx.choose_spec
 obtain rfl:n=n':=by omega
 obtain rfl:=map_ofN_inj e2;obtain ⟨h1,h2⟩:=IsChain.uniq h e3;exact Prod.ext h1.symm h2.symm
structure PcF (D:Int) (ll:List (List Int)) (N:Nat) (gs:List (List Nat)):Prop where
 dn:D=((N:Nat):Int)
 lg:ll=gs.map Ma.ofN
 n1:1≤N
 n2:N≤64
 ch:IsChain N (Gr N (·∈gs)) (pOR D ll).1 (pOR D ll).2
theorem ChAns.pc {w:World} {D:Int} {ll:List (List Int)} {cv:Value} (h:ChAns w D ll cv 0):∃ oa oc ra rc,cv=.agg #[.int .i64 D,.slice oa (pO D ll).length oc,.slice ra (pR D ll).length rc]∧ChEqR w (.slice oa (pO D ll).length oc) (.slice ra (pR D ll).length rc) (pO D ll) (pR D ll)∧∃ N gs,PcF D ll N gs:=by
 rcases h with ⟨h,_⟩ | ⟨_,n,gs,h1,h2,h3,h4,ov,rv,O,R,rfl,h5,h6,h7⟩
 ·exact absurd rfl h
 ·have e:pOR D ll=(O,R):=by rw [h1,h2]; exact pOR_eq h7
  have eO:pO D ll=O.map Ma.ofN:=by unfold pO; rw [e]
  have eR:pR D ll=R.map (List.map Ma.ofN):=by unfold pR; rw [e]
  obtain ⟨oa,oc,rfl,-⟩:=h5.shape;obtain ⟨ra,rc,rfl⟩:=h6.shape;rw [eO,eR];refine ⟨oa,oc,ra,rc,by rw [h1],⟨h5,h6⟩,n,gs,h1,h2,h3,h4,?_⟩;rw [e]; exact h7
theorem ChAns.pcv {w:World} {D:Int} {ll:List (List Int)} {x ov rv:Value} (h:ChAns w D ll (.agg #[x,ov,rv]) 0):ChEqR w ov rv (pO D ll) (pR D ll)∧∃ N gs,PcF D ll N gs:=by
 obtain ⟨oa,oc,ra,rc,e,h1,h2⟩:=h.pc
 injection e with e
 injection e with e
 injection e with _ e
 injection e with e1 e
 injection e with e2 _
 subst e1 e2;exact ⟨h1,h2⟩
theorem PcF.lenO {D:Int} {ll:List (List Int)} {N:Nat} {gs:List (List Nat)} (h:PcF D ll N gs):(pO D ll).length=N:=by unfold pO; rw [List.length_map]; exact h.ch.lenO
theorem PcF.lenR {D:Int} {ll:List (List Int)} {N:Nat} {gs:List (List Nat)} (h:PcF D ll N gs):(pR D ll).length=N:=by unfold pR; rw [List.length_map]; exact h.ch.lenR
end Go.Proofs.Ythehbckogieimaa

namespace Go.Proofs.Ythehbckogieimaa
open Go.RowKit
open Go.Proofs
open Go.Proofs.Ob
attribute [local irreducible] Go.Calls Go.wpList
theorem faF0 (b:Nat) (w:World):(Instr.fieldAt 61 (.pointer (some ⟨b,0,none⟩)) 0).run Try.prog w=.ok (.pointer (some ⟨b,0,none⟩)) w:=by kernel_rfl
theorem faF1 (b:Nat) (w:World):(Instr.fieldAt 61 (.pointer (some ⟨b,0,none⟩)) 1).run Try.prog w=.ok (.pointer (some ⟨b,2,none⟩)) w:=by kernel_rfl
theorem grF2_0 (b:Nat) (w:World):(Instr.fieldAt 24 (.pointer (some ⟨b,2,none⟩)) 0).run Try.prog w=.ok (.pointer (some ⟨b,2,none⟩)) w:=by kernel_rfl
theorem grF2_1 (b:Nat) (w:World):(Instr.fieldAt 24 (.pointer (some ⟨b,2,none⟩)) 1).run Try.prog w=.ok (.pointer (some ⟨b,3,none⟩)) w:=by kernel_rfl
theorem grF3_0 (b:Nat) (w:World):(Instr.fieldAt 24 (.pointer (some ⟨b,3,none⟩)) 0).run Try.prog w=.ok (.pointer (some ⟨b,3,none⟩)) w:=by kernel_rfl
theorem grF5_0 (b:Nat) (w:World):(Instr.fieldAt 24 (.pointer (some ⟨b,5,none⟩)) 0).run Try.prog w=.ok (.pointer (some ⟨b,5,none⟩)) w:=by kernel_rfl
theorem run_loadG3 {w:World} {b:Nat} {x y:Value} (h1:w.cell? ⟨b,3,none⟩=some x) (h2:w.cell? ⟨b,4,none⟩=some y):(loadVar 24 ⟨b,3,none⟩).run Try.prog w=.ok (.agg #[x,y]) w:=by
 obtain ⟨i0,hi,hz0,hz1,hz2⟩:=info_parts infoGroup
 have ha0:(⟨b,3,none⟩:Addr).add 0=⟨b,3,none⟩:=by simp [Addr.add]
 have ha1:(⟨b,3,none⟩:Addr).add 1=⟨b,4,none⟩:=by simp [Addr.add]
 have hg:(isAgg 24).run Try.prog w=.ok true w:=by kernel_rfl
 simp [loadVar,hg,sizeOf,typeInfo,hi,hz1,loadCells,loadCellsFrom,load,ha0,ha1];simp [Sem.run,h1,h2]
theorem run_loadG5 {w:World} {b:Nat} {x y:Value} (h1:w.cell? ⟨b,5,none⟩=some x) (h2:w.cell? ⟨b,6,none⟩=some y):(loadVar 24 ⟨b,5,none⟩).run Try.prog w=.ok (.agg #[x,y]) w:=by
 obtain ⟨i0,hi,hz0,hz1,hz2⟩:=info_parts infoGroup
 have ha0:(⟨b,5,none⟩:Addr).add 0=⟨b,5,none⟩:=by simp [Addr.add]
 have ha1:(⟨b,5,none⟩:Addr).add 1=⟨b,6,none⟩:=by simp [Addr.add]
 have hg:(isAgg 24).run Try.prog w=.ok true w:=by kernel_rfl
 simp [loadVar,hg,sizeOf,typeInfo,hi,hz1,loadCells,loadCellsFrom,load,ha0,ha1];simp [Sem.run,h1,h2]
theorem box4 (w:World) (x y z u:Value) (t:TypeId):CL (w.alloc (.cells #[x,y,z,u] t)) w.heap.size 0 x∧CL (w.alloc (.cells #[x,y,z,u] t)) w.heap.size 1 y∧CL (w.alloc (.cells #[x,y,z,u] t)) w.heap.size 2 z∧CL (w.alloc (.cells #[x,y,z,u] t)) w.heap.size 3 u :=
 ⟨⟨by rw [Rg.cellNew]; rfl,by simp⟩,⟨by rw [Rg.cellNew]; rfl,by simp⟩,⟨by rw [Rg.cellNew]; rfl,by simp⟩,⟨by rw [Rg.cellNew]; rfl,by simp⟩⟩
def mnC (n n':Nat):Int:=if n=n' then 0 else 4
theorem mnC_ne {n n':Nat} (h:n≠n'):mnC n n'=4:=if_neg h
theorem mnC_eq {n n':Nat} (h:n=n'):mnC n n'=0:=if_pos h
def DgPost (d e:Int) (w:World) (e2:Ending) (w':World):Prop:=∃ r,e2=.returned (.int .i64 r)∧((1≤d∧d≤64)→(1≤e∧e≤64)→r=if 64<d+e then 5 else 0)∧Below w.heap.size w w'
theorem many_any {d e:Int} {a a':Option Addr} {n n' c c':Nat} {w:World} :
  Calls Try.prog 33 #[.agg #[.int .i64 d,.slice a n c,.int .i64 e,.slice a' n' c']] w fun e2 w'=>e2=.returned (.int .i64 (mnC n n'))∧Below w.heap.size w w':=by
 have K:=ι (Below.refl w.heap.size w)
 go_enter Try.func33,Try.ntmps33
 go_upto_region 0 with (fail);refine Rg.wl ?_;have hbx:=box4 w (.int .i64 d) (.slice a n c) (.int .i64 e) (.slice a' n' c') 61;refine Rg.lr 1 (Rg.exec_box _ _ rfl rfl) ?_;go_frame;have hb:=(Below.refl w.heap.size w).alloc (Nat.le_refl _) (.cells #[.int .i64 d,.slice a n c,.int .i64 e,.slice a' n' c'] 61);generalize w.alloc (.cells #[.int .i64 d,.slice a n c,.int .i64 e,.slice a' n' c'] 61)=w1 at *;replace K:=ι (Rg.acc K.out hb);clear hb;have A0:=ι hbx.1;have A1:=ι hbx.2.1;have A2:=ι hbx.2.2.1;have A3:=ι hbx.2.2.2;clear hbx;refine Rg.la 2 (.int .i64 ((0:Nat):Int)) ?_;go_frame
 by_cases hn:n=n'
 case neg =>
  have HV:=ι (mnC_ne hn);go_upto_region 1 with (fail);refine Rg.wl ?_;refine Rg.lr 3 (exec_field _ rfl rfl (faF0 _ _)) ?_;go_frame;refine Rg.lr 4 (exec_fieldG _ rfl rfl) ?_;go_frame;refine Rg.lr 5 (Rg.exec_load (v:=.slice a n c) _ _ rfl ⟨w.heap.size,1,none⟩ rfl (Rg.run_loadSl _ _ Try.underlying22 A1.out.cell)) ?_;go_frame;refine Rg.lr 6 (exec_len _ _ _ rfl Try.underlying22 _ _ _ rfl) ?_;go_frame;refine Rg.lr 7 (exec_field _ rfl rfl (faF1 _ _)) ?_;go_frame;refine Rg.lr 8 (exec_field _ rfl rfl (grF2_1 _ _)) ?_;go_frame;refine Rg.lr 9 (Rg.exec_load (v:=.slice a' n' c') _ _ rfl ⟨w.heap.size,3,none⟩ rfl (Rg.run_loadSl _ _ Try.underlying22 A3.out.cell)) ?_;go_frame;refine Rg.lr 10 (exec_len _ _ _ rfl Try.underlying22 _ _ _ rfl) ?_;go_frame;refine Rg.lr 11 (exec_bin (R:=.bool true) .neq _ _ _ rfl rfl rfl (b_neqB _ (decide_eq_true (by omega)))) ?_;go_frame;go_upto_region 2 with (fail)
  refine Rg.wl ?_;refine Rg.la 2 (.int .i64 ((4:Nat):Int)) ?_;go_frame;go_wp2;go_ret;exact ⟨by rw [HV.out]; rfl,K.out⟩
 case pos =>
  have HV:=ι (mnC_eq hn);go_upto_region 1 with (fail);refine Rg.wl ?_;refine Rg.lr 3 (exec_field _ rfl rfl (faF0 _ _)) ?_;go_frame;refine Rg.lr 4 (exec_fieldG _ rfl rfl) ?_;go_frame;refine Rg.lr 5 (Rg.exec_load (v:=.slice a n c) _ _ rfl ⟨w.heap.size,1,none⟩ rfl (Rg.run_loadSl _ _ Try.underlying22 A1.out.cell)) ?_;go_frame;refine Rg.lr 6 (exec_len _ _ _ rfl Try.underlying22 _ _ _ rfl) ?_;go_frame;refine Rg.lr 7 (exec_field _ rfl rfl (faF1 _ _)) ?_;go_frame;refine Rg.lr 8 (exec_field _ rfl rfl (grF2_1 _ _)) ?_;go_frame;refine Rg.lr 9 (Rg.exec_load (v:=.slice a' n' c') _ _ rfl ⟨w.heap.size,3,none⟩ rfl (Rg.run_loadSl _ _ Try.underlying22 A3.out.cell)) ?_;go_frame;refine Rg.lr 10 (exec_len _ _ _ rfl Try.underlying22 _ _ _ rfl) ?_;go_frame;refine Rg.lr 11 (exec_bin (R:=.bool false) .neq _ _ _ rfl rfl rfl (b_neqB _ (decide_eq_false (by omega)))) ?_;go_frame;go_upto_region 3 with (fail)
  refine Rg.wl ?_;refine Rg.la 2 (.int .i64 ((0:Nat):Int)) ?_;go_frame;go_wp2;go_ret;exact ⟨by rw [HV.out]; rfl,K.out⟩
theorem b_addW (u v:Int):∃ r:Int,((-9223372036854775808≤u+v∧u+v≤9223372036854775807)→r=u+v)∧∀ (t:TypeId) (w:World),(binOp .add t (.int .i64 u) (.int .i64 v)).run Try.prog w=.ok (.int .i64 r) w :=
 ⟨IntKind.i64.wrap (u+v),fun h=>IntWalk.i64_in _ h,fun t w=>by simp [binOp,Op.intArith]⟩
theorem degrees_any {d e:Int} {a a':Option Addr} {n n' c c':Nat} {w:World} :
  Calls Try.prog 34 #[.agg #[.int .i64 d,.slice a n c,.int .i64 e,.slice a' n' c']] w (DgPost d e w):=by
 have K:=ι (Below.refl w.heap.size w);obtain ⟨r,hr0,hr⟩:=b_addW d e;have HR:=ι hr;have HR0:=ι hr0;clear hr hr0
 go_enter Try.func34,Try.ntmps34
 go_upto_region 0 with (fail);refine Rg.wl ?_;have hbx:=box4 w (.int .i64 d) (.slice a n c) (.int .i64 e) (.slice a' n' c') 61;refine Rg.lr 1 (Rg.exec_box _ _ rfl rfl) ?_;go_frame;have hb:=(Below.refl w.heap.size w).alloc (Nat.le_refl _) (.cells #[.int .i64 d,.slice a n c,.int .i64 e,.slice a' n' c'] 61);generalize w.alloc (.cells #[.int .i64 d,.slice a n c,.int .i64 e,.slice a' n' c'] 61)=w1 at *;replace K:=ι (Rg.acc K.out hb);clear hb;have A0:=ι hbx.1;have A1:=ι hbx.2.1;have A2:=ι hbx.2.2.1;have A3:=ι hbx.2.2.2;clear hbx;refine Rg.la 2 (.int .i64 ((0:Nat):Int)) ?_;go_frame
 by_cases hn:64<r
 case pos =>
  go_upto_region 1 with (fail);refine Rg.wl ?_;refine Rg.lr 3 (exec_field _ rfl rfl (faF0 _ _)) ?_;go_frame;refine Rg.lr 4 (exec_fieldG0 _ rfl rfl) ?_;go_frame;refine Rg.lr 5 (Rg.exec_load (v:=.int .i64 d) _ _ rfl ⟨w.heap.size,0,none⟩ rfl (run_loadInt A0.out.cell)) ?_;go_frame;refine Rg.lr 6 (exec_field _ rfl rfl (faF1 _ _)) ?_;go_frame;refine Rg.lr 7 (exec_field _ rfl rfl (grF2_0 _ _)) ?_;go_frame;refine Rg.lr 8 (Rg.exec_load (v:=.int .i64 e) _ _ rfl ⟨w.heap.size,2,none⟩ rfl (run_loadInt A2.out.cell)) ?_;go_frame;refine Rg.lr 9 (exec_bin (R:=.int .i64 r) .add _ _ _ rfl rfl rfl (HR.out _ _)) ?_;go_frame;refine Rg.lr 10 (exec_bin (R:=.bool true) .gtr _ _ _ rfl rfl rfl (b_gtr _ (decide_eq_true (by omega)))) ?_;go_frame;go_upto_region 2 with (fail);refine Rg.wl ?_;refine Rg.la 2 (.int .i64 ((5:Nat):Int)) ?_;go_frame;go_wp2;go_ret;exact ⟨5,rfl,fun h1 h2=>by rw [if_pos (by have:=HR0.out (by omega); omega)],K.out⟩
 case neg =>
  go_upto_region 1 with (fail);refine Rg.wl ?_;refine Rg.lr 3 (exec_field _ rfl rfl (faF0 _ _)) ?_;go_frame;refine Rg.lr 4 (exec_fieldG0 _ rfl rfl) ?_;go_frame;refine Rg.lr 5 (Rg.exec_load (v:=.int .i64 d) _ _ rfl ⟨w.heap.size,0,none⟩ rfl (run_loadInt A0.out.cell)) ?_;go_frame;refine Rg.lr 6 (exec_field _ rfl rfl (faF1 _ _)) ?_;go_frame;refine Rg.lr 7 (exec_field _ rfl rfl (grF2_0 _ _)) ?_;go_frame;refine Rg.lr 8 (Rg.exec_load (v:=.int .i64 e) _ _ rfl ⟨w.heap.size,2,none⟩ rfl (run_loadInt A2.out.cell)) ?_;go_frame;refine Rg.lr 9 (exec_bin (R:=.int .i64 r) .add _ _ _ rfl rfl rfl (HR.out _ _)) ?_;go_frame;refine Rg.lr 10 (exec_bin (R:=.bool false) .gtr _ _ _ rfl rfl rfl (b_gtr _ (decide_eq_false (by omega)))) ?_;go_frame;go_upto_region 3 with (fail);refine Rg.wl ?_;refine Rg.la 2 (.int .i64 ((0:Nat):Int)) ?_;go_frame;go_wp2;go_ret;exact ⟨0,rfl,fun h1 h2=>by rw [if_neg (by have:=HR0.out (by omega); omega)],K.out⟩

theorem infoErr:(Try.prog.info? 27).map (fun i=>(i.zero,i.size,i.bytes))=some (some (.int .i64 0),1,8):=by kernel_rfl
theorem slErrs:Rg.SlT Try.prog 75 27 (.int .i64 0) 8:=⟨Try.underlying75,infoErr,rfl,by decide⟩
theorem run_loadErr {w:World} {ad:Addr} {v:Value} (h:w.cell? ad=some v):(loadVar 27 ad).run Try.prog w=.ok v w:=by
 simp [loadVar,isAgg,run_underlying Try.underlying27,load];simp [Sem.run,h]
theorem run_build1p (X:World) (x:Int):(Instr.buildSlice 39 1 #[(0,.int .i64 x)]).run Try.prog X=.ok (.slice (some ⟨X.heap.size,0,none⟩) 1 1) (X.alloc (.cells #[.int .i64 x] 3)):=by
 obtain ⟨i0,hi,hz0,hz1,hz2⟩:=info_parts intsInfo;refine run_buildSlice X 39 3 1 _ _ i0 _ Try.underlying39 hi hz0 (by rw [hz1]; decide) (by rw [hz1]; decide) ?_;generalize (fun x=>((Value.int IntKind.i64 0).cells)[x % (Value.int IntKind.i64 0).cells.size]!)=f;rw [hz1];have h1:Array.range (1*1)=#[0]:=rfl;simp [Instr.fill,Value.cells,h1]
theorem run_buildE4 (X:World) (x y z u:Int):(Instr.buildSlice 75 4 #[(0,.int .i64 x),(1,.int .i64 y),(2,.int .i64 z),(3,.int .i64 u)]).run Try.prog X=.ok (.slice (some ⟨X.heap.size,0,none⟩) 4 4) (X.alloc (.cells #[.int .i64 x,.int .i64 y,.int .i64 z,.int .i64 u] 27)):=by
 obtain ⟨i0,hi,hz0,hz1,hz2⟩:=info_parts infoErr;refine run_buildSlice X 75 27 4 _ _ i0 _ Try.underlying75 hi hz0 (by rw [hz1]; decide) (by rw [hz1]; decide) ?_;generalize (fun x=>((Value.int IntKind.i64 0).cells)[x % (Value.int IntKind.i64 0).cells.size]!)=f;rw [hz1];have h1:Array.range (4*1)=#[0,1,2,3]:=rfl;simp [Instr.fill,Value.cells,h1]
def orL:List Int→Int
 | []=>0
 | x :: l=>if x≠0 then x else orL l
theorem orL_next {l:List Int} {i:Nat} (hi:i<l.length) (h:l[i]=0):orL (l.drop (i+1))=orL (l.drop i):=by
 rw [List.drop_eq_getElem_cons hi,orL,if_neg (fun e=>e h)]
theorem orL_hit {l:List Int} {i:Nat} (hi:i<l.length) (h:l[i]≠0):orL (l.drop i)=l[i]:=by
 rw [List.drop_eq_getElem_cons hi,orL,if_pos h]
theorem orL_end {l:List Int} {i:Nat} (hi:l.length≤i):orL (l.drop i)=0:=by rw [List.drop_of_length_le hi]; rfl
theorem OwI.pushP {B:Nat} {W:World} {v:Value} {l:List Int} (h:OwI B W v l) (hB:B≤W.heap.size) (x:Int) (hn:l.length<1000000) (ty:TypeId) :
  ∃ a c X,(Builtin.append_ #[39,39] ty #[v,.slice (some ⟨W.heap.size,0,none⟩) 1 1]).run Try.prog (W.alloc (.cells #[.int .i64 x] 3))=.ok (.slice a (l.length+1) c) X∧OwI B X (.slice a (l.length+1) c) (l++[x])∧(∀ {B':Nat} {W0:World},B'≤B→Below B' W0 W→Below B' W0 X):=by
 have hb:Below W.heap.size W (W.alloc (.cells #[.int .i64 x] 3)):=(Below.refl _ _).alloc (Nat.le_refl _) _;have hlt:=fun k e=>(h.own.lt k e).2;obtain ⟨v',X,r1,r2,r3,r4,a,c,rfl⟩:=app_run (P:=Try.prog) slPerm ty (Rg.row_below h.own hb) (Nat.le_trans hB hb.size) W.heap.size 1 (u:=.int .i64 x) (by rw [Rg.cellNew]; rfl) rfl hn;have hk1:Rg.Kp (fun _=>False) W (W.alloc (.cells #[.int .i64 x] 3)):=Rg.Kp.of_below hb;have hk:Rg.Kp (fun k=>v.ownBlock=some k) W X:=Rg.Kp.trans (M:=fun k=>v.ownBlock=some k) (hk1.weak fun _=>False.elim) (Rg.Kp.of_grown r3 fun _ e=>e) (fun _ _ e=>e);refine ⟨a,c,X,r1,⟨?_⟩,fun {B' W0} hB' hb0=>?_⟩
 ·rw [List.map_append,List.length_append]; exact r2
 ·refine (hb0.trans ⟨hk.os,hk.tape,hk.output,hk.size,fun k hk'=>hk.block k ?_ fun e=>?_⟩)
  ·have:=hb0.size; omega
  ·have:=(h.own.lt k e).1; omega
def OrPost (l:List Int) (w:World) (e:Ending) (w':World):Prop:=e=.returned (.int .i64 (orL l))∧Below w.heap.size w w'
theorem Or_any {v:Value} {l:List Int} {w:World} (h:Rg.Ints w v l) (hl:l.length≤1000) :
  Calls Try.prog 35 #[v] w (OrPost l w):=by
 obtain ⟨la,lc,rfl,-⟩:=h.shape;have HI:=ι h;have HL:=ι hl;have K:=ι (Below.refl w.heap.size w);clear h hl
 go_enter Try.func35,Try.ntmps35
 go_upto_region 0 with (fail);refine Rg.wl ?_;refine Rg.la 2 (.int .i64 ((0:Nat):Int)) ?_;go_frame;go_upto_region 1 with (fail);refine Rg.wl ?_;refine Rg.la 3 (.int .i64 0) ?_;go_frame;go_upto_region 2 with (fail);refine Rg.wl ?_;refine Rg.lm 6 (.slice la l.length lc) ?_;go_frame;refine Rg.lr 7 (exec_len _ _ _ rfl Try.underlying75 _ _ _ rfl) ?_;go_frame;refine Rg.lm 8 (.int .i64 ((0:Nat):Int)) ?_;go_frame;have HS:=ι (show orL (l.drop 0)=orL l by rw [List.drop_zero]);go_wp2
 go_loopw [8] (fun iv wr=>∃ i:Nat,iv=.int .i64 ((i:Nat):Int)∧i≤l.length∧Hid (orL (l.drop i)=orL l)∧Hid (Below w.heap.size w wr)) (fun iv _=>l.length - (intOf iv).toNat)
 case atStart=>exact ⟨0,rfl,Nat.zero_le _,HS,K⟩
 case round =>
  clear K HS;obtain ⟨i,rfl,hi,HS,K⟩:=hrel;generalize wr=wd at *;have hl:l.length≤1000:=HL.out
  by_cases hil:i<l.length
  case neg =>
   have HV:=ι (show orL l=0 by rw [← HS.out]; exact orL_end (by omega));go_upto_region 3 with (fail);refine Rg.wl ?_;refine Rg.lr 9 (exec_bin (R:=.bool false) .lss _ _ _ rfl rfl rfl (b_lss _ (decide_eq_false (by omega)))) ?_;go_frame;go_upto_region 8 with (fail);refine Rg.wl ?_;refine Rg.lm 17 (.int .i64 0) ?_;go_frame;refine Rg.la 2 (.int .i64 0) ?_;go_frame;go_wp2;go_ret;exact ⟨by rw [HV.out]; rfl,K.out⟩
  case pos =>
   have HIL:=ι hil;obtain ⟨a',c',e1,-,-,-,hs⟩:=HI.out.shape
   injection e1 with e2 _ e4
   subst e2 e4;obtain ⟨b,o,rfl,hb,hc⟩:=hs (by omega);have CX:=ι ((CL.mk (hc i hil) hb).below K.out);obtain ⟨x,hx⟩:∃ x,Hid (l[i]'hil=x):=⟨_,ι rfl⟩;rw [hx.out] at CX;clear hs hb hc
   by_cases h0:x=0
   case neg =>
    have HV:=ι (show orL l=x by rw [← HS.out,orL_hit HIL.out (by rw [hx.out]; exact h0),hx.out]);go_upto_region 3 with (fail);refine Rg.wl ?_;refine Rg.lr 9 (exec_bin (R:=.bool true) .lss _ _ _ rfl rfl rfl (b_lss _ (decide_eq_true (by omega)))) ?_;go_frame;go_upto_region 4 with (fail);refine Rg.wl ?_;refine Rg.lr 10 (exec_indexS slErrs _ _ rfl b (o) (l.length) lc (i) rfl rfl HIL.out) ?_;go_frame;refine Rg.lr 11 (Rg.exec_load (v:=.int .i64 x) _ _ rfl ⟨b,o+i,none⟩ rfl (run_loadErr CX.out.cell)) ?_;go_frame;refine Rg.la 5 (.int .i64 x) ?_;go_frame;go_upto_region 5 with (fail);refine Rg.wl ?_;refine Rg.lm 12 (.int .i64 x) ?_;go_frame;refine Rg.lm 13 (.int .i64 0) ?_;go_frame;refine Rg.lr 14 (exec_bin (R:=.bool true) .neq _ _ _ rfl rfl rfl (b_neqB _ (decide_eq_true h0))) ?_;go_frame;go_upto_region 6 with (fail);refine Rg.wl ?_;refine Rg.lm 15 (.int .i64 x) ?_;go_frame;refine Rg.la 2 (.int .i64 x) ?_;go_frame
    go_wp2;go_ret;exact ⟨by rw [HV.out]; rfl,K.out⟩
   case pos =>
    have HS2:=ι (show orL (l.drop (i+1))=orL l by rw [orL_next HIL.out (by rw [hx.out]; exact h0)]; exact HS.out);go_upto_region 3 with (fail);refine Rg.wl ?_;refine Rg.lr 9 (exec_bin (R:=.bool true) .lss _ _ _ rfl rfl rfl (b_lss _ (decide_eq_true (by omega)))) ?_;go_frame;go_upto_region 4 with (fail);refine Rg.wl ?_;refine Rg.lr 10 (exec_indexS slErrs _ _ rfl b (o) (l.length) lc (i) rfl rfl HIL.out) ?_;go_frame;refine Rg.lr 11 (Rg.exec_load (v:=.int .i64 x) _ _ rfl ⟨b,o+i,none⟩ rfl (run_loadErr CX.out.cell)) ?_;go_frame;refine Rg.la 5 (.int .i64 x) ?_;go_frame;go_upto_region 5 with (fail);refine Rg.wl ?_;refine Rg.lm 12 (.int .i64 x) ?_;go_frame;refine Rg.lm 13 (.int .i64 0) ?_;go_frame;refine Rg.lr 14 (exec_bin (R:=.bool false) .neq _ _ _ rfl rfl rfl (b_neqB _ (decide_eq_false (fun e=>e h0)))) ?_;go_frame;go_upto_region 7 with (fail);refine Rg.wl ?_;refine Rg.lr 16 (exec_bin (R:=.int .i64 (((i+1):Nat):Int)) .add _ _ _ rfl rfl rfl (b_add _ (by omega) (by omega))) ?_;go_frame
    refine Rg.lm 8 (.int .i64 (((i+1):Nat):Int)) ?_;go_frame;go_wp2
    go_roundw
    case rel=>exact ⟨i+1,by go_num,HIL.out,HS2,K⟩
    case measure=>simp [intOf]; have:=HIL.out; omega
theorem joinI_step {x y:List Int} {i:Nat} (hi:i<y.length):joinI x (y.take (i+1))=joinI x (y.take i)++[y[i]+(x.length:Int)]:=by
 unfold joinI;rw [List.take_add_one,List.getElem?_eq_getElem hi,List.map_append,List.append_assoc];rfl
def JnPost (x y:List Int) (w:World) (e:Ending) (w':World):Prop:=∃ v,e=.returned v∧OwI w.heap.size w' v (joinI x y)∧Below w.heap.size w w'
theorem joined_any {xv yv:Value} {x y:List Int} {w:World} (hx:Rg.Ints w xv x) (hy:Rg.Ints w yv y) (h1:1≤x.length) (hxl:x.length≤64) (hyl:y.length≤64) (hyb:∀ z∈y,0≤z∧z≤64) :
  Calls Try.prog 37 #[xv,yv] w (JnPost x y w):=by
 obtain ⟨xa,xc,rfl,-⟩:=hx.shape;obtain ⟨ya,yc,rfl,-⟩:=hy.shape;have HX:=ι hx;have HY:=ι hy;have HYB:=ι hyb;have HXL:=ι hxl;have HYL:=ι hyl;have K:=ι (Below.refl w.heap.size w);clear hx hy hyb
 go_enter Try.func37,Try.ntmps37
 go_upto_region 0 with (fail);refine Rg.wl ?_;refine Rg.la 4 (.slice none 0 0) ?_;go_frame;go_upto_region 1 with (fail);refine Rg.wl ?_;refine Rg.lm 8 (.slice xa x.length xc) ?_;go_frame;refine list_ask (some 9) rfl rfl _ _ (exec_fn1 48 _ _ rfl rfl (Vzcl3 _ _)) ?_;refine (Clone_any _ x w HX.out h1 (by omega)).mono ?_;rintro e1 w1 ⟨cv,rfl,hrow,hb⟩;refine ⟨_,rfl,?_⟩;go_frame;replace HX:=ι (HX.out.below hb);replace K:=ι (Rg.acc K.out hb);clear hb;have OW:=ι (OwI.mk hrow);refine Rg.la 5 (cv) ?_;go_frame;go_upto_region 2 with (fail);refine Rg.wl ?_;refine Rg.lm 10 (.slice ya y.length yc) ?_;go_frame;refine Rg.lr 11 (exec_len _ _ _ rfl Try.underlying39 _ _ _ rfl) ?_;go_frame;refine Rg.lm 12 (.int .i64 ((0:Nat):Int)) ?_;go_frame;clear hrow;have OW0:=ι (show OwI w.heap.size w1 cv (joinI x (y.take 0)) by rw [List.take_zero]; unfold joinI; rw [List.map_nil,List.append_nil]; exact OW.out)
 obtain ⟨ca,cc,hsh⟩:=OW0.out.shape;clear OW hsh ca cc;go_wp2
 go_loopw [5,12] (fun zv iv wr=>∃ i:Nat,iv=.int .i64 ((i:Nat):Int)∧i≤y.length∧Hid (OwI w.heap.size wr zv (joinI x (y.take i)))∧Hid (Below w.heap.size w wr)) (fun _ iv _=>y.length - (intOf iv).toNat)
 case atStart=>exact ⟨0,rfl,Nat.zero_le _,OW0,K⟩
 case round =>
  clear K OW0;obtain ⟨i,rfl,hi,OW,K⟩:=hrel;generalize wr=wd at *;obtain ⟨za,zc,rfl⟩:=OW.out.shape;have hyl:y.length≤64:=HYL.out
  by_cases hil:i<y.length
  case neg =>
   have HE:=ι (show y.take i=y from List.take_of_length_le (by omega));obtain ⟨jl,hjl⟩:∃ l,Hid (joinI x (y.take i)=l):=⟨_,ι rfl⟩;rw [hjl.out] at OW ⊢;go_upto_region 3 with (fail);refine Rg.wl ?_;refine Rg.lr 13 (exec_bin (R:=.bool false) .lss _ _ _ rfl rfl rfl (b_lss _ (decide_eq_false (by omega)))) ?_;go_frame;go_upto_region 7 with (fail);refine Rg.wl ?_;refine Rg.lm 24 (.slice za jl.length zc) ?_;go_frame;refine Rg.la 4 (.slice za jl.length zc) ?_;go_frame;go_wp2;go_ret;exact ⟨_,rfl,by rw [HE.out] at hjl; rw [hjl.out]; exact OW.out,K.out⟩
  case pos =>
   have HIL:=ι hil;obtain ⟨a',c',e1,-,-,-,hs⟩:=HY.out.shape
   injection e1 with e2 _ e4
   subst e2 e4;obtain ⟨b,o,rfl,hb,hc⟩:=hs (by omega);obtain ⟨q,hq⟩:∃ q,Hid (y[i]'hil=q):=⟨_,ι rfl⟩;have CX:=ι (CL.mk (hc i hil) hb);rw [hq.out] at CX;have hqb:0≤q∧q≤64:=HYB.out q (by rw [← hq.out]; exact List.getElem_mem _);have hxl:x.length≤64:=HXL.out;have HJ:=ι (show joinI x (y.take (i+1))=joinI x (y.take i)++[q+(x.length:Int)] by rw [joinI_step HIL.out,hq.out]);have HJL:=ι (show (joinI x (y.take i)).length<1000000 by unfold joinI; rw [List.length_append,List.length_map,List.length_take]; omega);obtain ⟨jl,hjl⟩:∃ l,Hid (joinI x (y.take i)=l):=⟨_,ι rfl⟩;rw [hjl.out] at OW HJ HJL ⊢;clear hs hb hc;go_upto_region 3 with (fail);refine Rg.wl ?_;refine Rg.lr 13 (exec_bin (R:=.bool true) .lss _ _ _ rfl rfl rfl (b_lss _ (decide_eq_true (by omega)))) ?_;go_frame;go_upto_region 4 with (fail);refine Rg.wl ?_;refine Rg.lr 14 (exec_indexS slPerm _ _ rfl b (o) (y.length) yc (i) rfl rfl HIL.out) ?_;go_frame
   refine Rg.lr 15 (Rg.exec_load (v:=.int .i64 q) _ _ rfl ⟨b,o+i,none⟩ rfl (run_loadInt ((Below.cell (p:=⟨b,o+i,none⟩) K.out CX.out.lt).trans CX.out.cell))) ?_;go_frame;refine Rg.la 7 (.int .i64 q) ?_;go_frame;go_upto_region 5 with (fail);refine Rg.wl ?_;refine Rg.lm 16 (.slice za jl.length zc) ?_;go_frame;refine Rg.lm 17 (.int .i64 q) ?_;go_frame;refine Rg.lm 18 (.slice xa x.length xc) ?_;go_frame;refine Rg.lr 19 (exec_len _ _ _ rfl Try.underlying39 _ _ _ rfl) ?_;go_frame;refine Rg.lr 20 (exec_bin (R:=.int .i64 (q+(x.length:Int))) .add _ _ _ rfl rfl rfl (b_add _ (by omega) (by omega))) ?_;go_frame;refine Rg.lr 21 (Rg.exec_buildSlice _ _ _ rfl (.int .i64 (q+(x.length:Int))) rfl (run_build1p wd _)) ?_;go_frame;obtain ⟨a9,c9,X9,r1,r2,r3⟩:=OW.out.pushP K.out.size (q+(x.length:Int)) HJL.out 39;refine Rg.lr 22 (Rg.exec_append _ _ _ rfl rfl rfl r1) ?_;go_frame;refine Rg.la 5 (.slice a9 (jl.length+1) c9) ?_;go_frame
   have OW2:=ι (show OwI w.heap.size X9 (.slice a9 (jl.length+1) c9) (joinI x (y.take (i+1))) by rw [HJ.out]; exact r2);have K2:=ι (r3 (Nat.le_refl _) K.out);clear r1 r2 r3;go_upto_region 6 with (fail);refine Rg.wl ?_;refine Rg.lr 23 (exec_bin (R:=.int .i64 (((i+1):Nat):Int)) .add _ _ _ rfl rfl rfl (b_add _ (by omega) (by omega))) ?_;go_frame;refine Rg.lm 12 (.int .i64 (((i+1):Nat):Int)) ?_;go_frame;go_wp2
   go_roundw
   case rel=>exact ⟨i+1,by go_num,HIL.out,OW2,K2⟩
   case measure=>simp [intOf]; have:=HIL.out; omega
end Go.Proofs.Ythehbckogieimaa

namespace Go.Proofs.Ythehbckogieimaa
open Go.RowKit
open Go.Proofs
open Go.Proofs.Ob
open Go.Proofs.Cm (Lv Twr trOf)
attribute [local irreducible] Go.Calls Go.wpList
theorem Kucl0 (args:Array Value) (w:World):(callFunc 43 args).run Try.prog w=.ok (.enter 43 args) w:=by kernel_rfl
theorem Kucl1 (args:Array Value) (w:World):(callFunc 49 args).run Try.prog w=.ok (.enter 49 args) w:=by kernel_rfl
theorem Kucl2 (args:Array Value) (w:World):(callFunc 50 args).run Try.prog w=.ok (.enter 50 args) w:=by kernel_rfl
theorem chMake_f (gv:Value) (d:Int) (ll:List (List Int)) (w:World) (h:Rg.Rows w gv ll) :
  Calls Try.prog 38 #[.int .i64 d,gv] w fun e w'=>∃ cv,e=.returned (.tuple #[cv,.int .i64 (mkchk d ll)])∧ChAnsF w.heap.size w' d ll cv (mkchk d ll)∧Below w.heap.size w w':=by
 obtain ⟨ga,gc,rfl,hcap,hbig,_,hgs⟩:=h.shape;have G0:=ι h;have HGS:=ι hgs;have K:=ι (Below.refl w.heap.size w);clear h hgs hcap
 go_enter Try.func38,Try.ntmps38
 go_upto_region 0 with (fail);refine Rg.wl ?_;have hnew:=Tri.new w (.int .i64 0) (.slice none 0 0) (.slice none 0 0);refine Rg.lr 4 (exec_allocC rfl) ?_;go_frame;have hb:=(Below.refl w.heap.size w).alloc (Nat.le_refl _) (.cells #[.int .i64 0,.slice none 0 0,.slice none 0 0] 33);generalize w.alloc (.cells #[.int .i64 0,.slice none 0 0,.slice none 0 0] 33)=w1 at *;replace G0:=ι (G0.out.below hb);replace K:=ι (Rg.acc K.out hb);clear hb;have FT:=ι hnew;refine Rg.la 5 (.int .i64 ((0:Nat):Int)) ?_;go_frame;clear hnew;have K1:=ι (Below.refl w1.heap.size w1);have KB:=K;clear K;have hlo:=FT.out.lt
 by_cases hd1:d<1
 ·have HC:=ι (show mkchk d ll=2 by unfold mkchk; rw [if_neg (by omega)])
  go_upto_region 1 with (fail);refine Rg.wl ?_;refine Rg.lm 9 (.int .i64 d) ?_;go_frame;refine Rg.lr 10 (exec_bin (R:=.bool true) .lss _ _ _ rfl rfl rfl (b_lss _ (decide_eq_true (by omega)))) ?_;go_frame;refine Rg.lm 11 (.bool true) ?_;go_frame;refine listW_pass (some 12) (by kernel_rfl) rfl ?_;go_frame;refine listW_pass (some 13) (by kernel_rfl) rfl ?_;go_frame;refine Rg.lr 14 (exec_pickT (v:=.bool true) _ _ _ rfl rfl rfl) ?_;go_frame;have FT2:=ι (FT.out.below K1.out);have KX:=ι (KB.out.trans (K1.out.mono KB.out.size));go_upto_region 2 with (fail);refine Rg.wl ?_;refine Rg.lr 15 (exec_buildC0 rfl) ?_;go_frame;refine Rg.list_skip none rfl rfl (Rg.exec_store _ _ _ rfl _ rfl _ rfl (run_storeC _ _ _ _ _ _ _ FT2.out)) ?_;go_frame;refine Rg.la 5 (.int .i64 ((2:Nat):Int)) ?_;go_frame;have hfz:=fin_zero FT2.out KX.out (Nat.le_refl _);generalize ((w1.setCell ⟨w.heap.size,0,none⟩ (.int .i64 0)).setCell ⟨w.heap.size,1,none⟩ (.slice none 0 0)).setCell ⟨w.heap.size,2,none⟩ (.slice none 0 0)=w99 at *
  have HFI:=ι (show ∃ cv,Ending.returned (.tuple #[zeroC,.int .i64 (2)])=.returned (.tuple #[cv,.int .i64 (mkchk d ll)])∧ChAnsF w.heap.size w99 d ll cv (mkchk d ll)∧Below w.heap.size w w99 from
   ⟨_,by rw [HC.out],.inl ⟨by rw [HC.out]; decide,rfl⟩,hfz.2⟩)
  have HTT:=ι hfz.1;clear hfz;go_wp2;exact bodyPost_ret (results_cellC2 (p:=4) (u:=5) rfl _ rfl rfl HTT.out) rfl HFI.out
 by_cases hd2:64<d
 ·have HC:=ι (show mkchk d ll=2 by unfold mkchk; rw [if_neg (by omega)])
  go_upto_region 1 with (fail);refine Rg.wl ?_;refine Rg.lm 9 (.int .i64 d) ?_;go_frame;refine Rg.lr 10 (exec_bin (R:=.bool false) .lss _ _ _ rfl rfl rfl (b_lss _ (decide_eq_false (by omega)))) ?_;go_frame;refine Rg.lm 11 (.bool false) ?_;go_frame;refine listW_run (some 12) rfl rfl (Rg.xm (.int .i64 d) _ rfl rfl) ?_;go_frame;refine listW_run (some 13) rfl rfl (exec_bin (R:=.bool true) .gtr _ _ _ rfl rfl rfl (b_gtr _ (decide_eq_true (by omega)))) ?_;go_frame;refine Rg.lr 14 (exec_pickF (v:=.bool true) _ _ _ rfl rfl rfl) ?_;go_frame;have FT2:=ι (FT.out.below K1.out);have KX:=ι (KB.out.trans (K1.out.mono KB.out.size));go_upto_region 2 with (fail);refine Rg.wl ?_;refine Rg.lr 15 (exec_buildC0 rfl) ?_;go_frame;refine Rg.list_skip none rfl rfl (Rg.exec_store _ _ _ rfl _ rfl _ rfl (run_storeC _ _ _ _ _ _ _ FT2.out)) ?_;go_frame;refine Rg.la 5 (.int .i64 ((2:Nat):Int)) ?_;go_frame;have hfz:=fin_zero FT2.out KX.out (Nat.le_refl _)
  generalize ((w1.setCell ⟨w.heap.size,0,none⟩ (.int .i64 0)).setCell ⟨w.heap.size,1,none⟩ (.slice none 0 0)).setCell ⟨w.heap.size,2,none⟩ (.slice none 0 0)=w99 at *
  have HFI:=ι (show ∃ cv,Ending.returned (.tuple #[zeroC,.int .i64 (2)])=.returned (.tuple #[cv,.int .i64 (mkchk d ll)])∧ChAnsF w.heap.size w99 d ll cv (mkchk d ll)∧Below w.heap.size w w99 from
   ⟨_,by rw [HC.out],.inl ⟨by rw [HC.out]; decide,rfl⟩,hfz.2⟩)
  have HTT:=ι hfz.1;clear hfz;go_wp2;exact bodyPost_ret (results_cellC2 (p:=4) (u:=5) rfl _ rfl rfl HTT.out) rfl HFI.out
 have hd3:1≤d∧d≤64:=by omega
 go_upto_region 1 with (fail);refine Rg.wl ?_;refine Rg.lm 9 (.int .i64 d) ?_;go_frame;refine Rg.lr 10 (exec_bin (R:=.bool false) .lss _ _ _ rfl rfl rfl (b_lss _ (decide_eq_false (by omega)))) ?_;go_frame;refine Rg.lm 11 (.bool false) ?_;go_frame;refine listW_run (some 12) rfl rfl (Rg.xm (.int .i64 d) _ rfl rfl) ?_;go_frame;refine listW_run (some 13) rfl rfl (exec_bin (R:=.bool false) .gtr _ _ _ rfl rfl rfl (b_gtr _ (decide_eq_false (by omega)))) ?_;go_frame;refine Rg.lr 14 (exec_pickF (v:=.bool false) _ _ _ rfl rfl rfl) ?_;go_frame
 by_cases hg1:4096<ll.length
 ·have HC:=ι (show mkchk d ll=4 by unfold mkchk; rw [if_pos hd3,if_neg (by omega)])
  go_upto_region 3 with (fail);refine Rg.wl ?_;refine Rg.lm 16 (.slice ga ll.length gc) ?_;go_frame;refine Rg.lr 17 (exec_len _ _ _ rfl Try.underlying22 _ _ _ rfl) ?_;go_frame;refine Rg.lr 18 (exec_bin (R:=.bool true) .gtr _ _ _ rfl rfl rfl (b_gtr _ (decide_eq_true (by omega)))) ?_;go_frame;have FT2:=ι (FT.out.below K1.out);have KX:=ι (KB.out.trans (K1.out.mono KB.out.size));go_upto_region 4 with (fail);refine Rg.wl ?_;refine Rg.lr 19 (exec_buildC0 rfl) ?_;go_frame;refine Rg.list_skip none rfl rfl (Rg.exec_store _ _ _ rfl _ rfl _ rfl (run_storeC _ _ _ _ _ _ _ FT2.out)) ?_;go_frame;refine Rg.la 5 (.int .i64 ((4:Nat):Int)) ?_;go_frame;have hfz:=fin_zero FT2.out KX.out (Nat.le_refl _);generalize ((w1.setCell ⟨w.heap.size,0,none⟩ (.int .i64 0)).setCell ⟨w.heap.size,1,none⟩ (.slice none 0 0)).setCell ⟨w.heap.size,2,none⟩ (.slice none 0 0)=w99 at *
  have HFI:=ι (show ∃ cv,Ending.returned (.tuple #[zeroC,.int .i64 (4)])=.returned (.tuple #[cv,.int .i64 (mkchk d ll)])∧ChAnsF w.heap.size w99 d ll cv (mkchk d ll)∧Below w.heap.size w w99 from
   ⟨_,by rw [HC.out],.inl ⟨by rw [HC.out]; decide,rfl⟩,hfz.2⟩)
  have HTT:=ι hfz.1;clear hfz;go_wp2;exact bodyPost_ret (results_cellC2 (p:=4) (u:=5) rfl _ rfl rfl HTT.out) rfl HFI.out
 have HC0:=ι (show mkchk d ll=Ma.gck d ll by unfold mkchk; rw [if_pos hd3,if_pos (by omega)]);have HG0:=ι (show Ma.gck d (ll.drop 0)=Ma.gck d ll by rw [List.drop_zero]);go_upto_region 3 with (fail);refine Rg.wl ?_;refine Rg.lm 16 (.slice ga ll.length gc) ?_;go_frame;refine Rg.lr 17 (exec_len _ _ _ rfl Try.underlying22 _ _ _ rfl) ?_;go_frame;refine Rg.lr 18 (exec_bin (R:=.bool false) .gtr _ _ _ rfl rfl rfl (b_gtr _ (decide_eq_false (by omega)))) ?_;go_frame;go_wp2
 go_loopw [22] (fun kv wr=>∃ k:Nat,kv=.int .i64 k∧k≤ll.length∧Hid (Below w1.heap.size w1 wr)∧Hid (Ma.gck d (ll.drop k)=Ma.gck d ll)) (fun kv _=>ll.length - (intOf kv).toNat)
 case atStart=>exact ⟨0,rfl,Nat.zero_le _,K1,HG0⟩
 case round =>
  clear K1 HG0;obtain ⟨k,rfl,hk,K1,HG0⟩:=hrel
  by_cases hkl:k<ll.length
  ·have hkN:(k:Int)<(ll.length:Int):=by omega
   have hgs:=HGS.out;obtain ⟨gb,go,rfl,hgb,hgk⟩:=hgs (by omega);obtain ⟨u,hcu,hxu⟩:=hgk k hkl;obtain ⟨x,hx⟩:∃ x,Hid (ll[k]=x):=⟨_,ι rfl⟩;rw [hx.out] at hxu;have CU:=ι (CL.mk ((KB.out.cell (p:=⟨gb,go+k,none⟩) hgb).trans hcu) (Nat.lt_of_lt_of_le hgb KB.out.size));have XU:=ι (Rg.Ints.below hxu KB.out);obtain ⟨xa,xc,rfl,_⟩:=hxu.shape;have HKL:=ι hkl;have hxl:=XU.out.len;have HXL:=ι (show x.length≤1000000000 by obtain ⟨n,a,c,e,_,e2⟩:=hxl; omega);clear hgs hgk hcu hxu hxl hgb;go_upto_region 7 with (fail);refine Rg.wl ?_;refine Rg.lr 24 (exec_indexS slPerms _ _ rfl gb (go) (ll.length) gc (k) rfl rfl HKL.out) ?_;go_frame;refine Rg.lr 25 (Rg.exec_load (v:=.slice xa x.length xc) _ _ rfl ⟨gb,go+k,none⟩ rfl (Rg.run_loadSl _ _ Try.underlying39 ((Below.cell (p:=⟨gb,go+k,none⟩) K1.out CU.out.lt).trans CU.out.cell))) ?_;go_frame;refine Rg.la 7 (.slice xa x.length xc) ?_;go_frame
   go_upto_region 8 with (fail);refine Rg.wl ?_;refine Rg.lm 26 (.slice xa x.length xc) ?_;go_frame;refine list_ask (some 27) rfl rfl _ _ (exec_fn1 43 _ _ rfl rfl (Kucl0 _ _)) ?_;refine (permCheck_any _ _ wr (XU.out.below K1.out)).mono ?_;rintro e1 w11 ⟨rfl,hb⟩;refine ⟨_,rfl,?_⟩;go_frame;replace K1:=ι (Rg.acc K1.out hb);clear hb;refine Rg.la 8 (.int .i64 (Ma.pchk x)) ?_;go_frame
   by_cases hp0:Ma.pchk x=0
   ·by_cases hxd:(x.length:Int)=d
    ·skip
     go_upto_region 9 with (fail);refine Rg.wl ?_;refine Rg.lm 28 (.int .i64 (Ma.pchk x)) ?_;go_frame;refine Rg.lr 29 (exec_bin (R:=.bool false) .neq _ _ _ rfl rfl rfl (b_neqB _ (decide_eq_false (by omega)))) ?_;go_frame;go_upto_region 11 with (fail);refine Rg.wl ?_;refine Rg.lm 32 (.slice xa x.length xc) ?_;go_frame;refine Rg.lr 33 (exec_len _ _ _ rfl Try.underlying39 _ _ _ rfl) ?_;go_frame;refine Rg.lm 34 (.int .i64 d) ?_;go_frame;refine Rg.lr 35 (exec_bin (R:=.bool false) .neq _ _ _ rfl rfl rfl (b_neqB _ (decide_eq_false (by omega)))) ?_;go_frame;have HG1:=ι (show Ma.gck d (ll.drop (k+1))=Ma.gck d ll by rw [← Ma.gck_next HKL.out (by rw [hx.out]; exact hp0) (by rw [hx.out]; exact hxd)]; exact HG0.out);go_wp2
     go_roundw
     case rel=>exact ⟨k+1,by go_num,HKL.out,K1,HG1⟩
     case measure=>simp [intOf]; have:=HKL.out; omega
    ·have HC:=ι (show mkchk d ll=10 by rw [HC0.out,← HG0.out]; exact Ma.gck_len HKL.out (by rw [hx.out]; exact hp0) (by rw [hx.out]; exact hxd))
     go_upto_region 9 with (fail);refine Rg.wl ?_;refine Rg.lm 28 (.int .i64 (Ma.pchk x)) ?_;go_frame;refine Rg.lr 29 (exec_bin (R:=.bool false) .neq _ _ _ rfl rfl rfl (b_neqB _ (decide_eq_false (by omega)))) ?_;go_frame;go_upto_region 11 with (fail);refine Rg.wl ?_;refine Rg.lm 32 (.slice xa x.length xc) ?_;go_frame;refine Rg.lr 33 (exec_len _ _ _ rfl Try.underlying39 _ _ _ rfl) ?_;go_frame;refine Rg.lm 34 (.int .i64 d) ?_;go_frame;refine Rg.lr 35 (exec_bin (R:=.bool true) .neq _ _ _ rfl rfl rfl (b_neqB _ (decide_eq_true (by omega)))) ?_;go_frame;have FT2:=ι (FT.out.below K1.out);have KX:=ι (KB.out.trans (K1.out.mono KB.out.size));go_upto_region 12 with (fail);refine Rg.wl ?_;refine Rg.lr 36 (exec_buildC0 rfl) ?_;go_frame;refine Rg.list_skip none rfl rfl (Rg.exec_store _ _ _ rfl _ rfl _ rfl (run_storeC _ _ _ _ _ _ _ FT2.out)) ?_;go_frame;refine Rg.la 5 (.int .i64 ((10:Nat):Int)) ?_;go_frame
     have hfz:=fin_zero FT2.out KX.out (Nat.le_refl _);generalize ((w11.setCell ⟨w.heap.size,0,none⟩ (.int .i64 0)).setCell ⟨w.heap.size,1,none⟩ (.slice none 0 0)).setCell ⟨w.heap.size,2,none⟩ (.slice none 0 0)=w99 at *
     have HFI:=ι (show ∃ cv,Ending.returned (.tuple #[zeroC,.int .i64 (10)])=.returned (.tuple #[cv,.int .i64 (mkchk d ll)])∧ChAnsF w.heap.size w99 d ll cv (mkchk d ll)∧Below w.heap.size w w99 from
      ⟨_,by rw [HC.out],.inl ⟨by rw [HC.out]; decide,rfl⟩,hfz.2⟩)
     have HTT:=ι hfz.1;clear hfz;go_wp2;exact bodyPost_ret (results_cellC2 (p:=4) (u:=5) rfl _ rfl rfl HTT.out) rfl HFI.out
   ·have HC:=ι (show mkchk d ll=Ma.pchk x by rw [HC0.out,← HG0.out,Ma.gck_bad HKL.out (by rw [hx.out]; exact hp0),hx.out])
    go_upto_region 9 with (fail);refine Rg.wl ?_;refine Rg.lm 28 (.int .i64 (Ma.pchk x)) ?_;go_frame;refine Rg.lr 29 (exec_bin (R:=.bool true) .neq _ _ _ rfl rfl rfl (b_neqB _ (decide_eq_true (by omega)))) ?_;go_frame;have FT2:=ι (FT.out.below K1.out);have KX:=ι (KB.out.trans (K1.out.mono KB.out.size));go_upto_region 10 with (fail);refine Rg.wl ?_;refine Rg.lr 30 (exec_buildC0 rfl) ?_;go_frame;refine Rg.lm 31 (.int .i64 (Ma.pchk x)) ?_;go_frame;refine Rg.list_skip none rfl rfl (Rg.exec_store _ _ _ rfl _ rfl _ rfl (run_storeC _ _ _ _ _ _ _ FT2.out)) ?_;go_frame;refine Rg.la 5 (.int .i64 (Ma.pchk x)) ?_;go_frame;have hfz:=fin_zero FT2.out KX.out (Nat.le_refl _);generalize ((w11.setCell ⟨w.heap.size,0,none⟩ (.int .i64 0)).setCell ⟨w.heap.size,1,none⟩ (.slice none 0 0)).setCell ⟨w.heap.size,2,none⟩ (.slice none 0 0)=w99 at *
    have HFI:=ι (show ∃ cv,Ending.returned (.tuple #[zeroC,.int .i64 (Ma.pchk x)])=.returned (.tuple #[cv,.int .i64 (mkchk d ll)])∧ChAnsF w.heap.size w99 d ll cv (mkchk d ll)∧Below w.heap.size w w99 from
     ⟨_,by rw [HC.out],.inl ⟨by rw [HC.out]; exact hp0,rfl⟩,hfz.2⟩)
    have HTT:=ι hfz.1;clear hfz;go_wp2;exact bodyPost_ret (results_cellC2 (p:=4) (u:=5) rfl _ rfl rfl HTT.out) rfl HFI.out
  ·obtain rfl:k=ll.length:=by omega
   have hkN:¬ (ll.length:Int)<(ll.length:Int):=by omega
   have hz:=HG0.out;rw [Ma.gck_end (Nat.le_refl _)] at hz;obtain ⟨n,gs,hdn,hll,hgd,hn1,hn2,hgl⟩:=mk_ok hd3.1 hd3.2 hz.symm;have HLL:=ι hll;have HGL:=ι hgl;have HGD:=ι hgd;have HC:=ι (show mkchk d ll=0 by rw [HC0.out]; exact hz.symm);subst hdn;have FT2:=ι (FT.out.below K1.out);have KX:=ι (KB.out.trans (K1.out.mono KB.out.size));have GR:=ι (Rg.Rows.below G0.out K1.out);clear hll hgl hgd hz;go_upto_region 14 with (fail);refine Rg.wl ?_;refine Rg.lm 38 (.int .i64 ((n:Nat):Int)) ?_;go_frame;refine Rg.lm 39 (.slice ga ll.length gc) ?_;go_frame;have HWB:=ι FT2.out.lt;refine list_ask (some 40) rfl rfl _ _ (exec_fn 49 _ _ _ rfl rfl rfl (Kucl1 _ _)) ?_;refine (build_b hn1 hn2 (by have:=GR.out; rw [show gs.map Ma.ofN=ll from HLL.out.symm]; exact this) HGD.out (by have:=HGL.out; omega)).mono ?_;rintro e1 w61 ⟨tb,L,F1,T1,V1,rfl,hT1,hc01,hc11,hB1,hb⟩;have HB:=ι hB1
   have HWC:=ι (Nat.lt_of_lt_of_le HWB.out hb.size);refine ⟨_,rfl,?_⟩;go_frame;replace FT2:=ι (FT2.out.below hb);replace GR:=ι (GR.out.below hb);replace KX:=ι (Rg.acc KX.out hb);clear hb;have HT:=ι hT1;have C0:=ι hc01;have C1:=ι hc11;clear hT1 hc01 hc11 hB1;refine list_ask (some 41) rfl rfl _ _ (exec_fn1 50 _ _ rfl rfl (Kucl2 _ _)) ?_;refine (chain_any hn1 hn2 HT.out C0.out C1.out (Cm.Gr.isG HGD.out) (HB.out.isTr (by omega) HGD.out) (fun j hj=>(HB.out.full j hj).1)).mono ?_;rintro e1 w62 ⟨ov,rv,O,R,rfl,hO,hR,hCh,hb⟩;obtain ⟨oa,oc,rfl,_⟩:=hO.rows.shape;obtain ⟨ra,rc,rfl⟩:=hR.rows.shape;have HO:=ι hO;have HR:=ι hR;have HCH:=ι hCh;clear hO hR hCh;refine ⟨_,rfl,?_⟩;go_frame;replace FT2:=ι (FT2.out.below hb);replace GR:=ι (GR.out.below hb);replace HT:=ι (HT.out.below hb);replace C0:=ι (C0.out.below hb);replace C1:=ι (C1.out.below hb);replace KX:=ι (Rg.acc KX.out hb)
   clear hb;refine Rg.list_skip none rfl rfl (Rg.exec_store _ _ _ rfl _ rfl _ rfl (run_storeC _ _ _ _ _ _ _ FT2.out)) ?_;go_frame;refine Rg.la 5 (.int .i64 ((0:Nat):Int)) ?_;go_frame;have htt:=FT2.out.set (.int .i64 ((n:Nat):Int)) (.slice oa (O.map Ma.ofN).length oc) (.slice ra (R.map (List.map Ma.ofN)).length rc);have hkt:=Rg.Kp.trans (Rg.Kp.trans (Rg.Kp.of_setCell (M:=fun z=>z=w.heap.size) (w:=w62) (a:=⟨w.heap.size,0,none⟩) (v:=.int .i64 ((n:Nat):Int)) rfl) (Rg.Kp.of_setCell (M:=fun z=>z=w.heap.size) (a:=⟨w.heap.size,1,none⟩) (v:=(.slice oa (O.map Ma.ofN).length oc)) rfl) (fun _ _ e=>e)) (Rg.Kp.of_setCell (M:=fun z=>z=w.heap.size) (a:=⟨w.heap.size,2,none⟩) (v:=(.slice ra (R.map (List.map Ma.ofN)).length rc)) rfl) (fun _ _ e=>e);have hro:=FRows.mono (F':=fun z=>w.heap.size≤z) (FRows.kp HO.out hkt (fun z g e=>by have:=HWC.out; omega)) (fun z hz=>by have:=HWC.out; omega)
   have hrr:=FRows2.mono (F':=fun z=>w.heap.size≤z) (HR.out.kp hkt (fun z g e=>by have:=HWC.out; omega)) (fun z hz=>by have:=HWC.out; omega);have hkf:=((KX.out.setCell (p:=⟨w.heap.size,0,none⟩) (Nat.le_refl _) (.int .i64 ((n:Nat):Int))).setCell (p:=⟨w.heap.size,1,none⟩) (Nat.le_refl _) (.slice oa (O.map Ma.ofN).length oc)).setCell (p:=⟨w.heap.size,2,none⟩) (Nat.le_refl _) (.slice ra (R.map (List.map Ma.ofN)).length rc);generalize ((w62.setCell ⟨w.heap.size,0,none⟩ (.int .i64 ((n:Nat):Int))).setCell ⟨w.heap.size,1,none⟩ (.slice oa (O.map Ma.ofN).length oc)).setCell ⟨w.heap.size,2,none⟩ (.slice ra (R.map (List.map Ma.ofN)).length rc)=w99 at *;have HTT:=ι htt
   have HFI:=ι (show ∃ cv,Ending.returned (.tuple #[.agg #[.int .i64 ((n:Nat):Int),(.slice oa (O.map Ma.ofN).length oc),(.slice ra (R.map (List.map Ma.ofN)).length rc)],.int .i64 0])=.returned (.tuple #[cv,.int .i64 (mkchk ((n:Nat):Int) ll)])∧ChAnsF w.heap.size w99 ((n:Nat):Int) ll cv (mkchk ((n:Nat):Int) ll)∧Below w.heap.size w w99 from
    ⟨_,by rw [HC.out],.inr ⟨HC.out,n,gs,rfl,HLL.out,hn1,hn2,_,_,O,R,rfl,hro,hrr,HCH.out⟩,hkf⟩)
   clear htt hkt hro hrr hkf;go_wp2;exact bodyPost_ret (results_cellC2 (p:=4) (u:=5) rfl _ rfl rfl HTT.out) rfl HFI.out
end Go.Proofs.Ythehbckogieimaa
