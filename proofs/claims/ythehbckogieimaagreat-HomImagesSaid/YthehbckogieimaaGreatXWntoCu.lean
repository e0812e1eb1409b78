/- Lemmas and contracts on the way to the statement; no condition of their own beyond those written. -/
import Derived.Test.YthehbckogieimaaGreatXVztoWm
import Derived.Deep.CutRange
import Derived.Deep.CutBlock
import Derived.IntWalk
import Derived.Great.BuildSlice
import Derived.ArgAppend
import Derived.Laws.CopyOwn
import Derived.StillTailTactics
import Derived.Deep.MidRow
import Derived.WalkSpells
import Derived.WalkLawsBesides
import Derived.Maps.AppendAt
import Derived.OwnWalk
import Derived.OrdersHeld
import Derived.Deep.OwnRows
import Derived.WalkKit
import Derived.Lib.Hide
import Derived.Laws.OwnMore
import Derived.Test.YthehbckogieimaaGreatProg
import Derived.Outline
import Derived.Deep.DeepFit
import Derived.BigQuiet
import Derived.Deep.QuietTactic
import Derived.Sort.OwnSortedInts
import Derived.WideMake
import Derived.MapKept
import Derived.ChangeMaps5
import Derived.Shelf.Sort.Plain
import Derived.RangeFuncBox
import Derived.RangeFuncLeaves
import Derived.Shelf.Abstract
import Derived.OwnWalkIn
import Derived.TacticsInMore
import Derived.LoopNIn
import Derived.LoopIn
import Derived.RangeFuncWrites
import Derived.RangeFuncNested
import Derived.Sort.CutIn
set_option linter.unusedVariables false
set_option linter.unusedSimpArgs false
set_option maxRecDepth 100000
set_option maxHeartbeats 8000000
namespace Go.Proofs.YthehbckogieimaaGreat
open Go.RowKit
open Go.Proofs
open Go.Proofs.Cm (Tr TabOk)
attribute [local irreducible] Go.Calls Go.wpList
theorem Wncl0 (args:Array Value) (w:World):(callFunc 101 args).run Tryz.prog w=.ok (.enter 101 args) w:=by kernel_rfl
theorem Wncl1 (args:Array Value) (w:World):(callFunc 268 args).run Tryz.prog w=.ok (.enter 268 args) w:=by kernel_rfl
theorem Wncl3 (args:Array Value) (w:World):(callFunc 70 args).run Tryz.prog w=.ok (.enter 70 args) w:=by kernel_rfl
theorem OwI.up {B:Nat} {W W':World} {v:Value} {l:List Int} (h:OwI B W v l) (hb:Below W.heap.size W W'):OwI B W' v l:=h.below hb
theorem OwI.at {B:Nat} {W:World} {a:Option Addr} {m c:Nat} {l:List Nat} (h:OwI B W (.slice a m c) (Ma.ofN l)) {k:Nat} (hk:k<l.length):∃ g,a=some ⟨g,0,none⟩∧CL W g (0+k) (.int .i64 ((l[k]:Nat):Int)):=by
 obtain ⟨g,c',u,e1,e2,e3,e4⟩:=row_of h.own (k:=k) (by rw [Ma.len_ofN]; exact hk)
 injection e1 with e1 _ _
 refine ⟨g,e1,?_,e4⟩;rw [e2,← e3];simp [Ma.ofN,List.getElem?_eq_getElem hk]
theorem tab_ge {n:Nat} {gs:List Nat→Prop} {tr:Tr} (h:TabOk n gs tr) {i p:Nat} {u:List Nat} (h1:tr i p=some u):i≤p:=by
 have hne:p≠i:=fun e=>by subst e; rw [h.diag] at h1; cases h1
 have hid:Cm.idT n tr i p=some u:=by rw [Cm.idT_ne hne]; exact h1
 have hi:=(h.lt i p u h1).1;have hp:=(h.lt i p u h1).2;refine Nat.le_of_not_lt fun hlt=>hne ?_;have a1:=h.rp.at_ i p u (Nat.zero_le _) hi hid;have a2:=h.rp.fx i p u (Nat.zero_le _) hi hid p hlt;exact Cm.ap_inj (h.rp.gd i p u (Nat.zero_le _) hi hid) hp hi (a2.trans a1.symm)
theorem mem_orbL {n:Nat} {gs:List Nat→Prop} {tr:Tr} (h:TabOk n gs tr) {i p:Nat} (hi:i<n):p∈orbL n tr i↔∃ u,Cm.idT n tr i p=some u:=by
 unfold orbL;rw [mem_orbP]
 constructor
 ·rintro ⟨h1,h2,h3⟩
  by_cases e:p=i
  ·subst e; exact ⟨_,Cm.idT_self⟩
  ·rw [Cm.idT_ne e]
   rcases h3 with h3 | h3
   ·exact absurd h3 e
   ·exact Option.isSome_iff_exists.1 h3
 ·rintro ⟨u,hu⟩
  by_cases e:p=i
  ·subst e; exact ⟨hi,Nat.le_refl _,.inl rfl⟩
  ·rw [Cm.idT_ne e] at hu
   exact ⟨(h.lt i p u hu).2,tab_ge h hu,.inr (by rw [hu]; rfl)⟩
def RLPost (w:World) (n i:Nat) (H:List Nat→Prop) (u:List Nat) (e:Ending) (w':World):Prop:=∃ v y B,e=.returned v∧w.heap.size≤B∧w'.ownsRow B 3 1 v (Ma.ofN y).length ((Ma.ofN y).map (Value.int .i64))∧Cm.LI H i n u y∧Cm.Gd n y∧Below w.heap.size w w'
theorem rleast_any {n:Nat} (hn1:1≤n) (hn2:n≤64) {F0:Nat→Prop} {tb tf tc:Nat} {w:World} {tr:Tr} {Rb:Nat→Nat} {V:Nat→Nat→Value} (hT:TabAt F0 tb tf n w tr Rb V) {gs:List Nat→Prop} (hg:∀ s,gs s→Cm.Gd n s) (hok:TabOk n gs tr) (htr:Cm.IsTr n (Cm.Gr n gs) (Cm.idT n tr)) {i p:Nat} (hi:i<n) {u:List Nat} (hu:Cm.idT n tr i p=some u) :
  Calls Tryz.prog 269 #[.slice (some ⟨tb,tf,none⟩) n tc,.int .i64 ((i:Nat):Int),.int .i64 ((p:Nat):Int)] w (RLPost w n i (Cm.Gr n gs) u):=by
 have HT:=ι hT;have HH:=ι (Cm.Gr.isG hg);have OK:=ι hok;have HTR:=ι htr;have HIN:=ι hi;have HU:=ι hu;have GU0:=ι (hok.rp.gd i p u (Nat.zero_le _) hi hu);have HLI:=ι (Cm.LI.start (Cm.Gr.isG hg) hi GU0.out);have CO:=ι (hT.out i hi);have K:=ι (KG.refl hT.Flt);have KB:=ι (Below.refl w.heap.size w)
 have hpn:p<n:=by
  by_cases e:p=i
  ·omega
  ·rw [Cm.idT_ne e] at hu; exact (hok.lt i p u hu).2
 have HPN:=ι hpn;have CE:=ι (CL.mk (show w.cell? ⟨Rb i,0+p,none⟩=some (V i p) by rw [Nat.zero_add]; exact hT.cell hi hpn) (hT.lt hi));clear hT hg hok htr hu
 go_enter Tryz.func269,Tryz.ntmps269
 go_upto_region 1 with (fail);refine Rg.wl ?_;refine Rg.lm 12 (.slice (some ⟨tb,tf,none⟩) n tc) ?_;go_frame;refine Rg.lr 13 (exec_len _ _ _ rfl Tryz.underlying213 _ _ _ rfl) ?_;go_frame;refine Rg.lk 14 (exec_fn1 101 _ _ rfl rfl (Wncl0 _ _)) ?_;refine (kitOne_any n w (by omega)).mono ?_;rintro e1 w1 ⟨ov,rfl,hov,hb⟩;replace KB:=ι (Rg.acc KB.out hb);refine ⟨_,rfl,?_⟩;go_frame;replace HT:=ι (HT.out.up hb);replace CO:=ι (CO.out.up hb);replace CE:=ι (CE.out.up hb);replace K:=ι (K.out.up hb);have XO:=ι (FP.new (F:=F0) hov);generalize Fup F0 w w1=F1 at *;clear hb;refine Rg.la 7 (ov) ?_;go_frame;clear hov
 by_cases hpi:p=i
 ·have hpiN:(p:Int)=(i:Int):=by omega
  have XV:=ι (show FP F1 w1 ov u by
   have:=HU.out;subst hpi;rw [Cm.idT_self] at this
   injection this with this
   rw [← this]; exact XO.out)
  clear hpi XO CO CE;go_upto_region 2 with (fail);refine Rg.wl ?_;refine Rg.lm 15 (.int .i64 ((p:Nat):Int)) ?_;go_frame;refine Rg.lm 16 (.int .i64 ((i:Nat):Int)) ?_;go_frame;refine Rg.lr 17 (exec_bin (R:=.bool false) .neq _ _ _ rfl rfl rfl (b_neqB _ Rg.dF)) ?_;go_frame;go_wp2
  go_loopw [8,7] (fun kv yv wr=>∃ (k:Nat) (y:List Nat) (F1:Nat→Prop),kv=.int .i64 k∧i<k∧k≤n∧Hid (FP F1 wr yv y)∧Hid (TabAt F1 tb tf n wr tr Rb V)∧Hid (KG F0 w F1 wr)∧Hid (Below w.heap.size w wr)∧Hid (Cm.Gd n y)∧Hid (Cm.LI (Cm.Gr n gs) i k u y)) (fun kv _ _=>n - (intOf kv).toNat)
  case atStart=>exact ⟨i+1,u,_,by go_num,Nat.lt_succ_self _,HIN.out,XV,HT,K,KB,GU0,HLI⟩
  case round =>
   clear XV HT K KB HLI;obtain ⟨k,y,F,rfl,hk1,hk2,X,HT,K,KB,GY,HLI⟩:=hrel;obtain ⟨yb,yo,yc,rfl⟩:=X.out.shape' GY.out hn1
   by_cases hkl:k<n
   ·have hkN:(k:Int)<(n:Int):=by omega
    have HKL:=ι hkl;go_upto_region 7 with (fail);refine Rg.wl ?_;refine Rg.lm 33 (.slice (some ⟨tb,tf,none⟩) n tc) ?_;go_frame;refine Rg.lm 34 (.int .i64 ((k:Nat):Int)) ?_;go_frame;refine Rg.lk 35 (exec_fn 268 _ _ _ rfl rfl rfl (Wncl1 _ _)) ?_;refine (orbit_any hn1 hn2 HT.out (fun i p u e=>tab_gd OK.out e) HKL.out).mono ?_;rintro e1 w1 ⟨ov2,rfl,hov,hb⟩;replace KB:=ι (Rg.acc KB.out hb);refine ⟨_,rfl,?_⟩;go_frame;replace HT:=ι (HT.out.up hb);replace X:=ι (X.out.up hb);replace K:=ι (K.out.up hb);have RO:=ι hov;generalize Fup F wr w1=F1 at *;clear hb;refine Rg.la 9 (ov2) ?_;go_frame;clear hov;obtain ⟨oa,oc,hsh⟩:=RO.out.shape;rw [Ma.len_ofN] at hsh;subst hsh;have HOM:=ι (fun q=>mem_orbL (p:=q) OK.out HKL.out);have HOL:=ι (orbP_len tr k n);obtain ⟨O,hO⟩:∃ O,Hid (orbL n tr k=O):=⟨_,ι rfl⟩;have hOl:=HOL.out;rw [show orbP tr k n=O from hO.out] at hOl
    replace HOL:=ι hOl;rw [hO.out] at RO HOM ⊢;obtain ⟨B9,hB9⟩:∃ B,Hid (wr.heap.size=B):=⟨_,ι rfl⟩;rw [hB9.out] at RO;clear hOl hO hB9;have HK0:=ι (show ∀ m (h:m<O.length),m<0→Cm.ap y k≤Cm.ap y O[m] from fun m _ h=>absurd h (Nat.not_lt_zero _));have HBK:=ι (show ∃ v,Cm.idT n tr k k=some v from ⟨_,Cm.idT_self⟩);go_wp2
    go_loopw [10,11] (fun bv iv wr=>∃ (b m:Nat) (F1:Nat→Prop),bv=.int .i64 b∧iv=.int .i64 m∧m≤O.length∧b<n∧Hid (FP F1 wr (.slice (some ⟨yb,yo,none⟩) n yc) y)∧Hid (TabAt F1 tb tf n wr tr Rb V)∧Hid (OwI B9 wr (.slice oa O.length oc) (Ma.ofN O))∧Hid (KG F0 w F1 wr)∧Hid (Below w.heap.size w wr)∧Hid (∃ v,Cm.idT n tr k b=some v)∧Hid (∀ m' (h:m' < O.length),m' < m→Cm.ap y b≤Cm.ap y O[m'])) (fun _ iv _=>O.length - (intOf iv).toNat)
    case atStart=>exact ⟨k,0,_,rfl,rfl,Nat.zero_le _,HKL.out,X,HT,RO,K,KB,HBK,HK0⟩
    case round =>
     clear X HT RO K KB HBK HK0;obtain ⟨b,m,F,rfl,rfl,hm,hbn,X,HT,RO,K,KB,HBK,HK0⟩:=hrel
     have hoN:(O.length:Int)≤64:=by have:=HOL.out; omega
     by_cases hml:m<O.length
     ·have hmN:(m:Int)<(O.length:Int):=by omega
      obtain ⟨og,rfl,hcq⟩:=RO.out.at hml;obtain ⟨q,hq⟩:∃ q:Nat,Hid (q=O[m]):=⟨_,ι rfl⟩;rw [← hq.out] at hcq;have CQ:=ι hcq;have HML:=ι hml;have HBN:=ι hbn;have HQR:=ι ((HOM.out q).1 (by rw [hq.out]; exact List.getElem_mem hml))
      have hqn:q<n:=by
       obtain ⟨v,hv⟩:=HQR.out
       by_cases e:q=k
       ·have:=HKL.out; omega
       ·rw [Cm.idT_ne e] at hv; exact (OK.out.lt k q v hv).2
      have HQN:=ι hqn;have CXq:=ι (X.out.ap GY.out hqn);have CXb:=ι (X.out.ap GY.out hbn);obtain ⟨yq,hyq⟩:∃ z:Nat,Hid (z=Cm.ap y q):=⟨_,ι rfl⟩;obtain ⟨yb',hyb⟩:∃ z:Nat,Hid (z=Cm.ap y b):=⟨_,ι rfl⟩;rw [← hyq.out] at CXq;rw [← hyb.out] at CXb;clear hcq hqn hbn hm
      by_cases hlt:yq<yb'
      ·have hltN:(yq:Int)<(yb':Int):=by omega
       go_upto_region 12 with (fail);have hV1:Below wr.heap.size wr wr.drew:=(Below.refl _ _).drew;replace KB:=ι (Rg.acc KB.out hV1);clear hV1;have hV0:Below wr.heap.size wr wr.drew:=(Below.refl _ _).drew;replace HT:=ι (HT.out.up hV0);replace X:=ι (X.out.up hV0);replace RO:=ι (RO.out.up hV0);replace CQ:=ι (CQ.out.up hV0);replace CXq:=ι (CXq.out.up hV0);replace CXb:=ι (CXb.out.up hV0);replace K:=ι (K.out.up hV0);generalize Fup F wr wr.drew=F1 at *;clear hV0;refine Rg.Any.begin (S:=Rg.Both 11 (fun _=>True) (fun W=>Below wr.drew.heap.size wr.drew W)) mix ?_;generalize wr.drew=w1 at *;have hS:∀ (l:Array Bool) W,Below w1.heap.size w1 W→Rg.Both 11 (fun _=>True) (fun W=>Below w1.heap.size w1 W) l W:=fun l W h=>⟨.inr trivial,h⟩;have hI:Below w1.heap.size w1 w1:=Below.refl _ _;refine Rg.tm 0 11 (.slice (some ⟨yb,yo,none⟩) n yc) 43 (hS _ _ hI) ?_;go_frame
       refine Rg.tm 1 11 (.slice (some ⟨og,0,none⟩) O.length oc) 44 (hS _ _ hI) ?_;go_frame;refine Rg.tm 2 11 (.int .i64 ((m:Nat):Int)) 45 (hS _ _ hI) ?_;go_frame;refine Rg.tg 3 11 (.pointer (some ⟨og,0+m,none⟩)) 46 rfl rfl (Rg.yields_index slInts _ _ rfl rfl og (0) (O.length) oc (m) rfl rfl HML.out) (hS _ _ hI) ?_;go_frame;refine Rg.tg 4 11 (.int .i64 ((q:Nat):Int)) 47 rfl rfl (Rg.yields_cell _ _ rfl rfl ⟨og,0+m,none⟩ rfl (fun W hW=>run_loadInt ((Below.cell (p:=⟨og,0+m,none⟩) hW CQ.out.lt).trans CQ.out.cell))) (hS _ _ hI) ?_;go_frame;refine Rg.tg 5 11 (.pointer (some ⟨yb,yo+q,none⟩)) 48 rfl rfl (Rg.yields_index slPerm _ _ rfl rfl yb (yo) (n) yc (q) rfl rfl HQN.out) (hS _ _ hI) ?_;go_frame;refine Rg.tg 6 11 (.int .i64 ((yq:Nat):Int)) 49 rfl rfl (Rg.yields_cell _ _ rfl rfl ⟨yb,yo+q,none⟩ rfl (fun W hW=>run_loadInt ((Below.cell (p:=⟨yb,yo+q,none⟩) hW CXq.out.lt).trans CXq.out.cell))) (hS _ _ hI) ?_;go_frame
       refine Rg.tm 7 11 (.slice (some ⟨yb,yo,none⟩) n yc) 50 (hS _ _ hI) ?_;go_frame;refine Rg.tm 8 11 (.int .i64 ((b:Nat):Int)) 51 (hS _ _ hI) ?_;go_frame;refine Rg.tg 9 11 (.pointer (some ⟨yb,yo+b,none⟩)) 52 rfl rfl (Rg.yields_index slPerm _ _ rfl rfl yb (yo) (n) yc (b) rfl rfl HBN.out) (hS _ _ hI) ?_;go_frame;refine Rg.tg 10 11 (.int .i64 ((yb':Nat):Int)) 53 rfl rfl (Rg.yields_cell _ _ rfl rfl ⟨yb,yo+b,none⟩ rfl (fun W hW=>run_loadInt ((Below.cell (p:=⟨yb,yo+b,none⟩) hW CXb.out.lt).trans CXb.out.cell))) (hS _ _ hI) ?_;go_frame;refine Rg.Any.one (i:=11) (by kernel_rfl) (Rg.Any.run (some 54) rfl rfl rfl (exec_bin (R:=.bool true) .lss _ _ _ rfl rfl rfl (b_lss _ Rg.dT)) (hS _ _ hI) ?_);go_frame;refine Rg.Any.done (by kernel_rfl) ?_ _;clear hS hI;go_upto_region 13 with (fail);refine Rg.wl ?_;refine Rg.lm 55 (.slice (some ⟨og,0,none⟩) O.length oc) ?_;go_frame
       refine Rg.lm 56 (.int .i64 ((m:Nat):Int)) ?_;go_frame;refine Rg.lr 57 (exec_indexS slInts _ _ rfl og (0) (O.length) oc (m) rfl rfl HML.out) ?_;go_frame;refine Rg.lr 58 (Rg.exec_load (v:=.int .i64 ((q:Nat):Int)) _ _ rfl ⟨og,0+m,none⟩ rfl (run_loadInt CQ.out.cell)) ?_;go_frame;refine Rg.la 10 (.int .i64 ((q:Nat):Int)) ?_;go_frame
       have HK1:=ι (show ∀ m' (h:m' < O.length),m' < m+1→Cm.ap y q≤Cm.ap y O[m'] from fun m' h h2=>by
        have a1:=hyq.out;have a2:=hyb.out
        by_cases e:m'=m
        ·subst e
         rw [← hq.out]; omega
        ·have:=HK0.out m' h (by omega)
         omega)
       go_wp2
       go_roundw
       case rel=>exact ⟨q,m+1,_,rfl,by go_num,HML.out,HQN.out,X,HT,RO,K,KB,HQR,HK1⟩
       case measure=>simp [intOf]; have:=HML.out; omega
      ·have hltN:¬ (yq:Int)<(yb':Int):=by omega
       go_upto_region 12 with (fail);have hV1:Below wr.heap.size wr wr.drew:=(Below.refl _ _).drew;replace KB:=ι (Rg.acc KB.out hV1);clear hV1;have hV0:Below wr.heap.size wr wr.drew:=(Below.refl _ _).drew;replace HT:=ι (HT.out.up hV0);replace X:=ι (X.out.up hV0);replace RO:=ι (RO.out.up hV0);replace CQ:=ι (CQ.out.up hV0);replace CXq:=ι (CXq.out.up hV0);replace CXb:=ι (CXb.out.up hV0);replace K:=ι (K.out.up hV0);generalize Fup F wr wr.drew=F1 at *;clear hV0;refine Rg.Any.begin (S:=Rg.Both 11 (fun _=>True) (fun W=>Below wr.drew.heap.size wr.drew W)) mix ?_;generalize wr.drew=w1 at *;have hS:∀ (l:Array Bool) W,Below w1.heap.size w1 W→Rg.Both 11 (fun _=>True) (fun W=>Below w1.heap.size w1 W) l W:=fun l W h=>⟨.inr trivial,h⟩;have hI:Below w1.heap.size w1 w1:=Below.refl _ _;refine Rg.tm 0 11 (.slice (some ⟨yb,yo,none⟩) n yc) 43 (hS _ _ hI) ?_;go_frame
       refine Rg.tm 1 11 (.slice (some ⟨og,0,none⟩) O.length oc) 44 (hS _ _ hI) ?_;go_frame;refine Rg.tm 2 11 (.int .i64 ((m:Nat):Int)) 45 (hS _ _ hI) ?_;go_frame;refine Rg.tg 3 11 (.pointer (some ⟨og,0+m,none⟩)) 46 rfl rfl (Rg.yields_index slInts _ _ rfl rfl og (0) (O.length) oc (m) rfl rfl HML.out) (hS _ _ hI) ?_;go_frame;refine Rg.tg 4 11 (.int .i64 ((q:Nat):Int)) 47 rfl rfl (Rg.yields_cell _ _ rfl rfl ⟨og,0+m,none⟩ rfl (fun W hW=>run_loadInt ((Below.cell (p:=⟨og,0+m,none⟩) hW CQ.out.lt).trans CQ.out.cell))) (hS _ _ hI) ?_;go_frame;refine Rg.tg 5 11 (.pointer (some ⟨yb,yo+q,none⟩)) 48 rfl rfl (Rg.yields_index slPerm _ _ rfl rfl yb (yo) (n) yc (q) rfl rfl HQN.out) (hS _ _ hI) ?_;go_frame;refine Rg.tg 6 11 (.int .i64 ((yq:Nat):Int)) 49 rfl rfl (Rg.yields_cell _ _ rfl rfl ⟨yb,yo+q,none⟩ rfl (fun W hW=>run_loadInt ((Below.cell (p:=⟨yb,yo+q,none⟩) hW CXq.out.lt).trans CXq.out.cell))) (hS _ _ hI) ?_;go_frame
       refine Rg.tm 7 11 (.slice (some ⟨yb,yo,none⟩) n yc) 50 (hS _ _ hI) ?_;go_frame;refine Rg.tm 8 11 (.int .i64 ((b:Nat):Int)) 51 (hS _ _ hI) ?_;go_frame;refine Rg.tg 9 11 (.pointer (some ⟨yb,yo+b,none⟩)) 52 rfl rfl (Rg.yields_index slPerm _ _ rfl rfl yb (yo) (n) yc (b) rfl rfl HBN.out) (hS _ _ hI) ?_;go_frame;refine Rg.tg 10 11 (.int .i64 ((yb':Nat):Int)) 53 rfl rfl (Rg.yields_cell _ _ rfl rfl ⟨yb,yo+b,none⟩ rfl (fun W hW=>run_loadInt ((Below.cell (p:=⟨yb,yo+b,none⟩) hW CXb.out.lt).trans CXb.out.cell))) (hS _ _ hI) ?_;go_frame;refine Rg.Any.one (i:=11) (by kernel_rfl) (Rg.Any.run (some 54) rfl rfl rfl (exec_bin (R:=.bool false) .lss _ _ _ rfl rfl rfl (b_lss _ Rg.dF)) (hS _ _ hI) ?_);go_frame;refine Rg.Any.done (by kernel_rfl) ?_ _;clear hS hI
       have HK1:=ι (show ∀ m' (h:m' < O.length),m' < m+1→Cm.ap y b≤Cm.ap y O[m'] from fun m' h h2=>by
        have a1:=hyq.out;have a2:=hyb.out
        by_cases e:m'=m
        ·subst e
         rw [← hq.out]; omega
        ·have:=HK0.out m' h (by omega)
         omega)
       go_wp2
       go_roundw
       case rel=>exact ⟨b,m+1,_,rfl,by go_num,HML.out,HBN.out,X,HT,RO,K,KB,HBK,HK1⟩
       case measure=>simp [intOf]; have:=HML.out; omega
     ·obtain rfl:m=O.length:=by omega
      have hmN:¬ (O.length:Int)<(O.length:Int):=by omega
      have HALL:=ι (show ∀ q',Cm.idT n tr k q'≠none→Cm.ap y b≤Cm.ap y q' from fun q' hq'=>by
       obtain ⟨v,hv⟩:=Option.ne_none_iff_exists'.1 hq';obtain ⟨m',hm',rfl⟩:=List.getElem_of_mem ((HOM.out q').2 ⟨v,hv⟩)
       exact HK0.out m' hm' hm')
      obtain ⟨v,hv⟩:=HBK.out;have HST:=ι (Cm.LI.step HH.out HTR.out GU0.out hk1 HKL.out HLI.out hv HALL.out);have GV:=ι (OK.out.rp.gd k b v (Nat.zero_le _) HKL.out hv);have GM:=ι (Cm.gd_mul GV.out GY.out);clear HALL HK0 HBK
      by_cases hbk:b=k
      ·have hbN:(b:Int)=(k:Int):=by omega
       have HE:=ι (show Ma.mulN v y=y by
        subst hbk;rw [Cm.idT_self] at hv
        injection hv with e
        rw [← e,Cm.one_mul GY.out])
       clear hbk hv;go_upto_region 14 with (fail);refine Rg.wl ?_;refine Rg.lm 59 (.int .i64 ((b:Nat):Int)) ?_;go_frame;refine Rg.lm 60 (.int .i64 ((k:Nat):Int)) ?_;go_frame;refine Rg.lr 61 (exec_bin (R:=.bool false) .neq _ _ _ rfl rfl rfl (b_neqB _ Rg.dF)) ?_;go_frame;go_wp2
       go_roundw
       case rel=>exact ⟨k+1,y,_,by go_num,by omega,HKL.out,X,HT,K,KB,GY,ι (by have:=HST.out; rwa [HE.out] at this)⟩
       case measure=>simp [intOf]; have:=HKL.out; omega
      ·have hbN:¬ (b:Int)=(k:Int):=by omega
       rw [Cm.idT_ne hbk] at hv;have HBN:=ι hbn;have UP:=ι (HT.out.some_ k b v HKL.out hbn hv);have CO:=ι (HT.out.out k HKL.out);have CE:=ι (CL.mk (show wr.cell? ⟨Rb k,0+b,none⟩=some (V k b) by rw [Nat.zero_add]; exact HT.out.cell HKL.out hbn) (HT.out.lt HKL.out));clear hbk hv;go_upto_region 14 with (fail);refine Rg.wl ?_;refine Rg.lm 59 (.int .i64 ((b:Nat):Int)) ?_;go_frame;refine Rg.lm 60 (.int .i64 ((k:Nat):Int)) ?_;go_frame;refine Rg.lr 61 (exec_bin (R:=.bool true) .neq _ _ _ rfl rfl rfl (b_neqB _ Rg.dT)) ?_;go_frame;go_upto_region 15 with (fail);refine Rg.wl ?_;refine Rg.lm 62 (.slice (some ⟨tb,tf,none⟩) n tc) ?_;go_frame;refine Rg.lm 63 (.int .i64 ((k:Nat):Int)) ?_;go_frame;refine Rg.lr 64 (exec_indexS slTable _ _ rfl tb (tf) (n) tc (k) rfl rfl HKL.out) ?_;go_frame;refine Rg.lr 65 (Rg.exec_load (v:=.slice (some ⟨(Rb k),0,none⟩) n n) _ _ rfl ⟨tb,tf+k,none⟩ rfl (Rg.run_loadSl _ _ Tryz.underlying22 CO.out.cell)) ?_;go_frame
       refine Rg.lm 66 (.int .i64 ((b:Nat):Int)) ?_;go_frame;refine Rg.lr 67 (exec_indexS slPerms _ _ rfl (Rb k) (0) (n) n (b) rfl rfl HBN.out) ?_;go_frame;refine Rg.lr 68 (Rg.exec_load (v:=(V k b)) _ _ rfl ⟨(Rb k),0+b,none⟩ rfl (Rg.run_loadSl _ _ Tryz.underlying51 CE.out.cell)) ?_;go_frame;refine Rg.lm 69 (.slice (some ⟨yb,yo,none⟩) n yc) ?_;go_frame;refine Rg.lk 70 (exec_fn 72 _ _ _ rfl rfl rfl (Wfcl1 _ _)) ?_;refine (kMul_f UP.out X.out GV.out GY.out hn2).mono ?_;rintro e1 w1 ⟨mv,rfl,hmv,hb⟩;replace KB:=ι (Rg.acc KB.out hb);refine ⟨_,rfl,?_⟩;go_frame;replace HT:=ι (HT.out.up hb);replace X:=ι (X.out.up hb);replace UP:=ι (UP.out.up hb);replace CO:=ι (CO.out.up hb);replace CE:=ι (CE.out.up hb);replace K:=ι (K.out.up hb);have MV:=ι hmv;generalize Fup F wr w1=F1 at *;clear hb;refine Rg.la 7 (mv) ?_;go_frame;clear hmv;go_wp2
       go_roundw
       case rel=>exact ⟨k+1,_,_,by go_num,by omega,HKL.out,MV,HT,K,KB,GM,HST⟩
       case measure=>simp [intOf]; have:=HKL.out; omega
   ·obtain rfl:k=n:=by omega
    have hkN:¬ (k:Int)<(k:Int):=by omega
    have HSZ:=ι KB.out.size;go_upto_region 16 with (fail);refine Rg.wl ?_;refine Rg.lm 71 (.slice (some ⟨yb,yo,none⟩) k yc) ?_;go_frame;refine Rg.lk 72 (exec_fn1 70 _ _ rfl rfl (Wncl3 _ _)) ?_;refine (Own_any _ (Ma.ofN y) wr X.out.np (by rw [Ma.len_ofN,GY.out.2]; omega)).mono ?_;rintro e1 w1 ⟨v2,rfl,hrow,hb⟩;replace KB:=ι (Rg.acc KB.out hb);have HROW:=ι hrow;clear hrow;refine ⟨_,rfl,?_⟩;go_frame;replace HT:=ι (HT.out.up hb);replace X:=ι (X.out.up hb);replace K:=ι (K.out.up hb);generalize Fup F wr w1=F1 at *;clear hb;refine Rg.la 6 (v2) ?_;go_frame;go_wp2;go_ret;exact (show RLPost _ _ _ _ _ _ _ from ⟨_,_,_,rfl,HSZ.out,HROW.out,HLI.out,GY.out,KB.out⟩)
 ·have hpiN:¬ (p:Int)=(i:Int):=by omega
  have XV:=ι (HT.out.some_ i p u HIN.out HPN.out (by have:=HU.out; rwa [Cm.idT_ne hpi] at this));clear hpi XO;go_upto_region 2 with (fail);refine Rg.wl ?_;refine Rg.lm 15 (.int .i64 ((p:Nat):Int)) ?_;go_frame;refine Rg.lm 16 (.int .i64 ((i:Nat):Int)) ?_;go_frame;refine Rg.lr 17 (exec_bin (R:=.bool true) .neq _ _ _ rfl rfl rfl (b_neqB _ Rg.dT)) ?_;go_frame;go_upto_region 3 with (fail);refine Rg.wl ?_;refine Rg.lm 18 (.slice (some ⟨tb,tf,none⟩) n tc) ?_;go_frame;refine Rg.lm 19 (.int .i64 ((i:Nat):Int)) ?_;go_frame;refine Rg.lr 20 (exec_indexS slTable _ _ rfl tb (tf) (n) tc (i) rfl rfl HIN.out) ?_;go_frame;refine Rg.lr 21 (Rg.exec_load (v:=.slice (some ⟨(Rb i),0,none⟩) n n) _ _ rfl ⟨tb,tf+i,none⟩ rfl (Rg.run_loadSl _ _ Tryz.underlying22 CO.out.cell)) ?_;go_frame;refine Rg.lm 22 (.int .i64 ((p:Nat):Int)) ?_;go_frame;refine Rg.lr 23 (exec_indexS slPerms _ _ rfl (Rb i) (0) (n) n (p) rfl rfl HPN.out) ?_;go_frame
  refine Rg.lr 24 (Rg.exec_load (v:=(V i p)) _ _ rfl ⟨(Rb i),0+p,none⟩ rfl (Rg.run_loadSl _ _ Tryz.underlying51 CE.out.cell)) ?_;go_frame;refine Rg.la 7 ((V i p)) ?_;go_frame;clear CO CE;go_wp2
  go_loopw [8,7] (fun kv yv wr=>∃ (k:Nat) (y:List Nat) (F1:Nat→Prop),kv=.int .i64 k∧i<k∧k≤n∧Hid (FP F1 wr yv y)∧Hid (TabAt F1 tb tf n wr tr Rb V)∧Hid (KG F0 w F1 wr)∧Hid (Below w.heap.size w wr)∧Hid (Cm.Gd n y)∧Hid (Cm.LI (Cm.Gr n gs) i k u y)) (fun kv _ _=>n - (intOf kv).toNat)
  case atStart=>exact ⟨i+1,u,_,by go_num,Nat.lt_succ_self _,HIN.out,XV,HT,K,KB,GU0,HLI⟩
  case round =>
   clear XV HT K KB HLI;obtain ⟨k,y,F,rfl,hk1,hk2,X,HT,K,KB,GY,HLI⟩:=hrel;obtain ⟨yb,yo,yc,rfl⟩:=X.out.shape' GY.out hn1
   by_cases hkl:k<n
   ·have hkN:(k:Int)<(n:Int):=by omega
    have HKL:=ι hkl;go_upto_region 7 with (fail);refine Rg.wl ?_;refine Rg.lm 33 (.slice (some ⟨tb,tf,none⟩) n tc) ?_;go_frame;refine Rg.lm 34 (.int .i64 ((k:Nat):Int)) ?_;go_frame;refine Rg.lk 35 (exec_fn 268 _ _ _ rfl rfl rfl (Wncl1 _ _)) ?_;refine (orbit_any hn1 hn2 HT.out (fun i p u e=>tab_gd OK.out e) HKL.out).mono ?_;rintro e1 w1 ⟨ov2,rfl,hov,hb⟩;replace KB:=ι (Rg.acc KB.out hb);refine ⟨_,rfl,?_⟩;go_frame;replace HT:=ι (HT.out.up hb);replace X:=ι (X.out.up hb);replace K:=ι (K.out.up hb);have RO:=ι hov;generalize Fup F wr w1=F1 at *;clear hb;refine Rg.la 9 (ov2) ?_;go_frame;clear hov;obtain ⟨oa,oc,hsh⟩:=RO.out.shape;rw [Ma.len_ofN] at hsh;subst hsh;have HOM:=ι (fun q=>mem_orbL (p:=q) OK.out HKL.out);have HOL:=ι (orbP_len tr k n);obtain ⟨O,hO⟩:∃ O,Hid (orbL n tr k=O):=⟨_,ι rfl⟩;have hOl:=HOL.out;rw [show orbP tr k n=O from hO.out] at hOl
    replace HOL:=ι hOl;rw [hO.out] at RO HOM ⊢;obtain ⟨B9,hB9⟩:∃ B,Hid (wr.heap.size=B):=⟨_,ι rfl⟩;rw [hB9.out] at RO;clear hOl hO hB9;have HK0:=ι (show ∀ m (h:m<O.length),m<0→Cm.ap y k≤Cm.ap y O[m] from fun m _ h=>absurd h (Nat.not_lt_zero _));have HBK:=ι (show ∃ v,Cm.idT n tr k k=some v from ⟨_,Cm.idT_self⟩);go_wp2
    go_loopw [10,11] (fun bv iv wr=>∃ (b m:Nat) (F1:Nat→Prop),bv=.int .i64 b∧iv=.int .i64 m∧m≤O.length∧b<n∧Hid (FP F1 wr (.slice (some ⟨yb,yo,none⟩) n yc) y)∧Hid (TabAt F1 tb tf n wr tr Rb V)∧Hid (OwI B9 wr (.slice oa O.length oc) (Ma.ofN O))∧Hid (KG F0 w F1 wr)∧Hid (Below w.heap.size w wr)∧Hid (∃ v,Cm.idT n tr k b=some v)∧Hid (∀ m' (h:m' < O.length),m' < m→Cm.ap y b≤Cm.ap y O[m'])) (fun _ iv _=>O.length - (intOf iv).toNat)
    case atStart=>exact ⟨k,0,_,rfl,rfl,Nat.zero_le _,HKL.out,X,HT,RO,K,KB,HBK,HK0⟩
    case round =>
     clear X HT RO K KB HBK HK0;obtain ⟨b,m,F,rfl,rfl,hm,hbn,X,HT,RO,K,KB,HBK,HK0⟩:=hrel
     have hoN:(O.length:Int)≤64:=by have:=HOL.out; omega
     by_cases hml:m<O.length
     ·have hmN:(m:Int)<(O.length:Int):=by omega
      obtain ⟨og,rfl,hcq⟩:=RO.out.at hml;obtain ⟨q,hq⟩:∃ q:Nat,Hid (q=O[m]):=⟨_,ι rfl⟩;rw [← hq.out] at hcq;have CQ:=ι hcq;have HML:=ι hml;have HBN:=ι hbn;have HQR:=ι ((HOM.out q).1 (by rw [hq.out]; exact List.getElem_mem hml))
      have hqn:q<n:=by
       obtain ⟨v,hv⟩:=HQR.out
       by_cases e:q=k
       ·have:=HKL.out; omega
       ·rw [Cm.idT_ne e] at hv; exact (OK.out.lt k q v hv).2
      have HQN:=ι hqn;have CXq:=ι (X.out.ap GY.out hqn);have CXb:=ι (X.out.ap GY.out hbn);obtain ⟨yq,hyq⟩:∃ z:Nat,Hid (z=Cm.ap y q):=⟨_,ι rfl⟩;obtain ⟨yb',hyb⟩:∃ z:Nat,Hid (z=Cm.ap y b):=⟨_,ι rfl⟩;rw [← hyq.out] at CXq;rw [← hyb.out] at CXb;clear hcq hqn hbn hm
      by_cases hlt:yq<yb'
      ·have hltN:(yq:Int)<(yb':Int):=by omega
       go_upto_region 12 with (fail);have hV1:Below wr.heap.size wr wr.drew:=(Below.refl _ _).drew;replace KB:=ι (Rg.acc KB.out hV1);clear hV1;have hV0:Below wr.heap.size wr wr.drew:=(Below.refl _ _).drew;replace HT:=ι (HT.out.up hV0);replace X:=ι (X.out.up hV0);replace RO:=ι (RO.out.up hV0);replace CQ:=ι (CQ.out.up hV0);replace CXq:=ι (CXq.out.up hV0);replace CXb:=ι (CXb.out.up hV0);replace K:=ι (K.out.up hV0);generalize Fup F wr wr.drew=F1 at *;clear hV0;refine Rg.Any.begin (S:=Rg.Both 11 (fun _=>True) (fun W=>Below wr.drew.heap.size wr.drew W)) mix ?_;generalize wr.drew=w1 at *;have hS:∀ (l:Array Bool) W,Below w1.heap.size w1 W→Rg.Both 11 (fun _=>True) (fun W=>Below w1.heap.size w1 W) l W:=fun l W h=>⟨.inr trivial,h⟩;have hI:Below w1.heap.size w1 w1:=Below.refl _ _;refine Rg.tm 0 11 (.slice (some ⟨yb,yo,none⟩) n yc) 43 (hS _ _ hI) ?_;go_frame
       refine Rg.tm 1 11 (.slice (some ⟨og,0,none⟩) O.length oc) 44 (hS _ _ hI) ?_;go_frame;refine Rg.tm 2 11 (.int .i64 ((m:Nat):Int)) 45 (hS _ _ hI) ?_;go_frame;refine Rg.tg 3 11 (.pointer (some ⟨og,0+m,none⟩)) 46 rfl rfl (Rg.yields_index slInts _ _ rfl rfl og (0) (O.length) oc (m) rfl rfl HML.out) (hS _ _ hI) ?_;go_frame;refine Rg.tg 4 11 (.int .i64 ((q:Nat):Int)) 47 rfl rfl (Rg.yields_cell _ _ rfl rfl ⟨og,0+m,none⟩ rfl (fun W hW=>run_loadInt ((Below.cell (p:=⟨og,0+m,none⟩) hW CQ.out.lt).trans CQ.out.cell))) (hS _ _ hI) ?_;go_frame;refine Rg.tg 5 11 (.pointer (some ⟨yb,yo+q,none⟩)) 48 rfl rfl (Rg.yields_index slPerm _ _ rfl rfl yb (yo) (n) yc (q) rfl rfl HQN.out) (hS _ _ hI) ?_;go_frame;refine Rg.tg 6 11 (.int .i64 ((yq:Nat):Int)) 49 rfl rfl (Rg.yields_cell _ _ rfl rfl ⟨yb,yo+q,none⟩ rfl (fun W hW=>run_loadInt ((Below.cell (p:=⟨yb,yo+q,none⟩) hW CXq.out.lt).trans CXq.out.cell))) (hS _ _ hI) ?_;go_frame
       refine Rg.tm 7 11 (.slice (some ⟨yb,yo,none⟩) n yc) 50 (hS _ _ hI) ?_;go_frame;refine Rg.tm 8 11 (.int .i64 ((b:Nat):Int)) 51 (hS _ _ hI) ?_;go_frame;refine Rg.tg 9 11 (.pointer (some ⟨yb,yo+b,none⟩)) 52 rfl rfl (Rg.yields_index slPerm _ _ rfl rfl yb (yo) (n) yc (b) rfl rfl HBN.out) (hS _ _ hI) ?_;go_frame;refine Rg.tg 10 11 (.int .i64 ((yb':Nat):Int)) 53 rfl rfl (Rg.yields_cell _ _ rfl rfl ⟨yb,yo+b,none⟩ rfl (fun W hW=>run_loadInt ((Below.cell (p:=⟨yb,yo+b,none⟩) hW CXb.out.lt).trans CXb.out.cell))) (hS _ _ hI) ?_;go_frame;refine Rg.Any.one (i:=11) (by kernel_rfl) (Rg.Any.run (some 54) rfl rfl rfl (exec_bin (R:=.bool true) .lss _ _ _ rfl rfl rfl (b_lss _ Rg.dT)) (hS _ _ hI) ?_);go_frame;refine Rg.Any.done (by kernel_rfl) ?_ _;clear hS hI;go_upto_region 13 with (fail);refine Rg.wl ?_;refine Rg.lm 55 (.slice (some ⟨og,0,none⟩) O.length oc) ?_;go_frame
       refine Rg.lm 56 (.int .i64 ((m:Nat):Int)) ?_;go_frame;refine Rg.lr 57 (exec_indexS slInts _ _ rfl og (0) (O.length) oc (m) rfl rfl HML.out) ?_;go_frame;refine Rg.lr 58 (Rg.exec_load (v:=.int .i64 ((q:Nat):Int)) _ _ rfl ⟨og,0+m,none⟩ rfl (run_loadInt CQ.out.cell)) ?_;go_frame;refine Rg.la 10 (.int .i64 ((q:Nat):Int)) ?_;go_frame
       have HK1:=ι (show ∀ m' (h:m' < O.length),m' < m+1→Cm.ap y q≤Cm.ap y O[m'] from fun m' h h2=>by
        have a1:=hyq.out;have a2:=hyb.out
        by_cases e:m'=m
        ·subst e
         rw [← hq.out]; omega
        ·have:=HK0.out m' h (by omega)
         omega)
       go_wp2
       go_roundw
       case rel=>exact ⟨q,m+1,_,rfl,by go_num,HML.out,HQN.out,X,HT,RO,K,KB,HQR,HK1⟩
       case measure=>simp [intOf]; have:=HML.out; omega
      ·have hltN:¬ (yq:Int)<(yb':Int):=by omega
       go_upto_region 12 with (fail);have hV1:Below wr.heap.size wr wr.drew:=(Below.refl _ _).drew;replace KB:=ι (Rg.acc KB.out hV1);clear hV1;have hV0:Below wr.heap.size wr wr.drew:=(Below.refl _ _).drew;replace HT:=ι (HT.out.up hV0);replace X:=ι (X.out.up hV0);replace RO:=ι (RO.out.up hV0);replace CQ:=ι (CQ.out.up hV0);replace CXq:=ι (CXq.out.up hV0);replace CXb:=ι (CXb.out.up hV0);replace K:=ι (K.out.up hV0);generalize Fup F wr wr.drew=F1 at *;clear hV0;refine Rg.Any.begin (S:=Rg.Both 11 (fun _=>True) (fun W=>Below wr.drew.heap.size wr.drew W)) mix ?_;generalize wr.drew=w1 at *;have hS:∀ (l:Array Bool) W,Below w1.heap.size w1 W→Rg.Both 11 (fun _=>True) (fun W=>Below w1.heap.size w1 W) l W:=fun l W h=>⟨.inr trivial,h⟩;have hI:Below w1.heap.size w1 w1:=Below.refl _ _;refine Rg.tm 0 11 (.slice (some ⟨yb,yo,none⟩) n yc) 43 (hS _ _ hI) ?_;go_frame
       refine Rg.tm 1 11 (.slice (some ⟨og,0,none⟩) O.length oc) 44 (hS _ _ hI) ?_;go_frame;refine Rg.tm 2 11 (.int .i64 ((m:Nat):Int)) 45 (hS _ _ hI) ?_;go_frame;refine Rg.tg 3 11 (.pointer (some ⟨og,0+m,none⟩)) 46 rfl rfl (Rg.yields_index slInts _ _ rfl rfl og (0) (O.length) oc (m) rfl rfl HML.out) (hS _ _ hI) ?_;go_frame;refine Rg.tg 4 11 (.int .i64 ((q:Nat):Int)) 47 rfl rfl (Rg.yields_cell _ _ rfl rfl ⟨og,0+m,none⟩ rfl (fun W hW=>run_loadInt ((Below.cell (p:=⟨og,0+m,none⟩) hW CQ.out.lt).trans CQ.out.cell))) (hS _ _ hI) ?_;go_frame;refine Rg.tg 5 11 (.pointer (some ⟨yb,yo+q,none⟩)) 48 rfl rfl (Rg.yields_index slPerm _ _ rfl rfl yb (yo) (n) yc (q) rfl rfl HQN.out) (hS _ _ hI) ?_;go_frame;refine Rg.tg 6 11 (.int .i64 ((yq:Nat):Int)) 49 rfl rfl (Rg.yields_cell _ _ rfl rfl ⟨yb,yo+q,none⟩ rfl (fun W hW=>run_loadInt ((Below.cell (p:=⟨yb,yo+q,none⟩) hW CXq.out.lt).trans CXq.out.cell))) (hS _ _ hI) ?_;go_frame
       refine Rg.tm 7 11 (.slice (some ⟨yb,yo,none⟩) n yc) 50 (hS _ _ hI) ?_;go_frame;refine Rg.tm 8 11 (.int .i64 ((b:Nat):Int)) 51 (hS _ _ hI) ?_;go_frame;refine Rg.tg 9 11 (.pointer (some ⟨yb,yo+b,none⟩)) 52 rfl rfl (Rg.yields_index slPerm _ _ rfl rfl yb (yo) (n) yc (b) rfl rfl HBN.out) (hS _ _ hI) ?_;go_frame;refine Rg.tg 10 11 (.int .i64 ((yb':Nat):Int)) 53 rfl rfl (Rg.yields_cell _ _ rfl rfl ⟨yb,yo+b,none⟩ rfl (fun W hW=>run_loadInt ((Below.cell (p:=⟨yb,yo+b,none⟩) hW CXb.out.lt).trans CXb.out.cell))) (hS _ _ hI) ?_;go_frame;refine Rg.Any.one (i:=11) (by kernel_rfl) (Rg.Any.run (some 54) rfl rfl rfl (exec_bin (R:=.bool false) .lss _ _ _ rfl rfl rfl (b_lss _ Rg.dF)) (hS _ _ hI) ?_);go_frame;refine Rg.Any.done (by kernel_rfl) ?_ _;clear hS hI
       have HK1:=ι (show ∀ m' (h:m' < O.length),m' < m+1→Cm.ap y b≤Cm.ap y O[m'] from fun m' h h2=>by
        have a1:=hyq.out;have a2:=hyb.out
        by_cases e:m'=m
        ·subst e
         rw [← hq.out]; omega
        ·have:=HK0.out m' h (by omega)
         omega)
       go_wp2
       go_roundw
       case rel=>exact ⟨b,m+1,_,rfl,by go_num,HML.out,HBN.out,X,HT,RO,K,KB,HBK,HK1⟩
       case measure=>simp [intOf]; have:=HML.out; omega
     ·obtain rfl:m=O.length:=by omega
      have hmN:¬ (O.length:Int)<(O.length:Int):=by omega
      have HALL:=ι (show ∀ q',Cm.idT n tr k q'≠none→Cm.ap y b≤Cm.ap y q' from fun q' hq'=>by
       obtain ⟨v,hv⟩:=Option.ne_none_iff_exists'.1 hq';obtain ⟨m',hm',rfl⟩:=List.getElem_of_mem ((HOM.out q').2 ⟨v,hv⟩)
       exact HK0.out m' hm' hm')
      obtain ⟨v,hv⟩:=HBK.out;have HST:=ι (Cm.LI.step HH.out HTR.out GU0.out hk1 HKL.out HLI.out hv HALL.out);have GV:=ι (OK.out.rp.gd k b v (Nat.zero_le _) HKL.out hv);have GM:=ι (Cm.gd_mul GV.out GY.out);clear HALL HK0 HBK
      by_cases hbk:b=k
      ·have hbN:(b:Int)=(k:Int):=by omega
       have HE:=ι (show Ma.mulN v y=y by
        subst hbk;rw [Cm.idT_self] at hv
        injection hv with e
        rw [← e,Cm.one_mul GY.out])
       clear hbk hv;go_upto_region 14 with (fail);refine Rg.wl ?_;refine Rg.lm 59 (.int .i64 ((b:Nat):Int)) ?_;go_frame;refine Rg.lm 60 (.int .i64 ((k:Nat):Int)) ?_;go_frame;refine Rg.lr 61 (exec_bin (R:=.bool false) .neq _ _ _ rfl rfl rfl (b_neqB _ Rg.dF)) ?_;go_frame;go_wp2
       go_roundw
       case rel=>exact ⟨k+1,y,_,by go_num,by omega,HKL.out,X,HT,K,KB,GY,ι (by have:=HST.out; rwa [HE.out] at this)⟩
       case measure=>simp [intOf]; have:=HKL.out; omega
      ·have hbN:¬ (b:Int)=(k:Int):=by omega
       rw [Cm.idT_ne hbk] at hv;have HBN:=ι hbn;have UP:=ι (HT.out.some_ k b v HKL.out hbn hv);have CO:=ι (HT.out.out k HKL.out);have CE:=ι (CL.mk (show wr.cell? ⟨Rb k,0+b,none⟩=some (V k b) by rw [Nat.zero_add]; exact HT.out.cell HKL.out hbn) (HT.out.lt HKL.out));clear hbk hv;go_upto_region 14 with (fail);refine Rg.wl ?_;refine Rg.lm 59 (.int .i64 ((b:Nat):Int)) ?_;go_frame;refine Rg.lm 60 (.int .i64 ((k:Nat):Int)) ?_;go_frame;refine Rg.lr 61 (exec_bin (R:=.bool true) .neq _ _ _ rfl rfl rfl (b_neqB _ Rg.dT)) ?_;go_frame;go_upto_region 15 with (fail);refine Rg.wl ?_;refine Rg.lm 62 (.slice (some ⟨tb,tf,none⟩) n tc) ?_;go_frame;refine Rg.lm 63 (.int .i64 ((k:Nat):Int)) ?_;go_frame;refine Rg.lr 64 (exec_indexS slTable _ _ rfl tb (tf) (n) tc (k) rfl rfl HKL.out) ?_;go_frame;refine Rg.lr 65 (Rg.exec_load (v:=.slice (some ⟨(Rb k),0,none⟩) n n) _ _ rfl ⟨tb,tf+k,none⟩ rfl (Rg.run_loadSl _ _ Tryz.underlying22 CO.out.cell)) ?_;go_frame
       refine Rg.lm 66 (.int .i64 ((b:Nat):Int)) ?_;go_frame;refine Rg.lr 67 (exec_indexS slPerms _ _ rfl (Rb k) (0) (n) n (b) rfl rfl HBN.out) ?_;go_frame;refine Rg.lr 68 (Rg.exec_load (v:=(V k b)) _ _ rfl ⟨(Rb k),0+b,none⟩ rfl (Rg.run_loadSl _ _ Tryz.underlying51 CE.out.cell)) ?_;go_frame;refine Rg.lm 69 (.slice (some ⟨yb,yo,none⟩) n yc) ?_;go_frame;refine Rg.lk 70 (exec_fn 72 _ _ _ rfl rfl rfl (Wfcl1 _ _)) ?_;refine (kMul_f UP.out X.out GV.out GY.out hn2).mono ?_;rintro e1 w1 ⟨mv,rfl,hmv,hb⟩;replace KB:=ι (Rg.acc KB.out hb);refine ⟨_,rfl,?_⟩;go_frame;replace HT:=ι (HT.out.up hb);replace X:=ι (X.out.up hb);replace UP:=ι (UP.out.up hb);replace CO:=ι (CO.out.up hb);replace CE:=ι (CE.out.up hb);replace K:=ι (K.out.up hb);have MV:=ι hmv;generalize Fup F wr w1=F1 at *;clear hb;refine Rg.la 7 (mv) ?_;go_frame;clear hmv;go_wp2
       go_roundw
       case rel=>exact ⟨k+1,_,_,by go_num,by omega,HKL.out,MV,HT,K,KB,GM,HST⟩
       case measure=>simp [intOf]; have:=HKL.out; omega
   ·obtain rfl:k=n:=by omega
    have hkN:¬ (k:Int)<(k:Int):=by omega
    have HSZ:=ι KB.out.size;go_upto_region 16 with (fail);refine Rg.wl ?_;refine Rg.lm 71 (.slice (some ⟨yb,yo,none⟩) k yc) ?_;go_frame;refine Rg.lk 72 (exec_fn1 70 _ _ rfl rfl (Wncl3 _ _)) ?_;refine (Own_any _ (Ma.ofN y) wr X.out.np (by rw [Ma.len_ofN,GY.out.2]; omega)).mono ?_;rintro e1 w1 ⟨v2,rfl,hrow,hb⟩;replace KB:=ι (Rg.acc KB.out hb);have HROW:=ι hrow;clear hrow;refine ⟨_,rfl,?_⟩;go_frame;replace HT:=ι (HT.out.up hb);replace X:=ι (X.out.up hb);replace K:=ι (K.out.up hb);generalize Fup F wr w1=F1 at *;clear hb;refine Rg.la 6 (v2) ?_;go_frame;go_wp2;go_ret;exact (show RLPost _ _ _ _ _ _ _ from ⟨_,_,_,rfl,HSZ.out,HROW.out,HLI.out,GY.out,KB.out⟩)

theorem Wocl1 (args:Array Value) (w:World):(callFunc 269 args).run Tryz.prog w=.ok (.enter 269 args) w:=by kernel_rfl
theorem rchain_any {n:Nat} (hn1:1≤n) (hn2:n≤64) {F:Nat→Prop} {tb tf tc:Nat} {w:World} {tr:Tr} {Rb:Nat→Nat} {V:Nat→Nat→Value} (hT:TabAt F tb tf n w tr Rb V) {gs:List Nat→Prop} (hg:∀ s,gs s→Cm.Gd n s) (hok:TabOk n gs tr) (htr:Cm.IsTr n (Cm.Gr n gs) (Cm.idT n tr)) :
  Calls Tryz.prog 200 #[.slice (some ⟨tb,tf,none⟩) n tc] w fun e w'=>∃ ov rv O R,e=.returned (.agg #[.int .i64 ((n:Nat):Int),ov,rv])∧Rg.FRows (fun z=>w.heap.size≤z) w' ov (O.map Ma.ofN)∧FRows2 (fun z=>w.heap.size≤z) w' rv (R.map (List.map Ma.ofN))∧Cm.IsChain n (Cm.Gr n gs) O R∧Below w.heap.size w w':=by
 have K:=ι (Below.refl w.heap.size w);have HT:=ι hT;have HGS:=ι hg;have HH:=ι (Cm.Gr.isG hg);have OK:=ι hok;have HTR:=ι htr;clear hT hg hok htr
 go_enter Tryz.func200,Tryz.ntmps200
 go_upto_region 0 with (fail);refine Rg.wl ?_;have hnew:=Tri.new w (.int .i64 0) (.slice none 0 0) (.slice none 0 0);refine Rg.lr 2 (exec_allocC rfl) ?_;go_frame;have hb:=(Below.refl w.heap.size w).alloc (Nat.le_refl _) (.cells #[.int .i64 0,.slice none 0 0,.slice none 0 0] 54);generalize w.alloc (.cells #[.int .i64 0,.slice none 0 0,.slice none 0 0] 54)=w1 at *;replace HT:=ι (HT.out.below hb);replace K:=ι (Rg.acc K.out hb);clear hb;have FT:=ι hnew;have K1:=ι (Below.refl w1.heap.size w1);have hlo1:=(FT.out.lt);clear hnew;go_upto_region 1 with (fail);refine Rg.wl ?_;refine Rg.lm 8 (.slice (some ⟨tb,tf,none⟩) n tc) ?_;go_frame;refine Rg.lr 9 (exec_len _ _ _ rfl Tryz.underlying213 _ _ _ rfl) ?_;go_frame;refine Rg.lr 10 (exec_buildC1 (d:=((n:Nat):Int)) _ rfl rfl) ?_;go_frame;have hnew:=Tri.new w1 (.int .i64 0) (.slice none 0 0) (.slice none 0 0);refine Rg.lr 3 (exec_allocC rfl) ?_;go_frame
 have hb:=(Below.refl w1.heap.size w1).alloc (Nat.le_refl _) (.cells #[.int .i64 0,.slice none 0 0,.slice none 0 0] 54);generalize w1.alloc (.cells #[.int .i64 0,.slice none 0 0,.slice none 0 0] 54)=w2 at *;replace K1:=ι (Rg.acc K1.out hb);clear hb;have FC:=ι hnew;refine Rg.list_skip none rfl rfl (Rg.exec_store _ _ _ rfl _ rfl _ rfl (run_storeC _ _ _ _ _ _ _ FC.out)) ?_;go_frame;clear hnew;replace FC:=ι (FC.out.set (.int .i64 ((n:Nat):Int)) (.slice none 0 0) (.slice none 0 0));replace K1:=ι (((K1.out.setCell (p:=⟨w1.heap.size,0,none⟩) (Nat.le_refl _) (.int .i64 ((n:Nat):Int))).setCell (p:=⟨w1.heap.size,1,none⟩) (Nat.le_refl _) (.slice none 0 0)).setCell (p:=⟨w1.heap.size,2,none⟩) (Nat.le_refl _) (.slice none 0 0));generalize (((w2).setCell ⟨w1.heap.size,0,none⟩ (.int .i64 ((n:Nat):Int))).setCell ⟨w1.heap.size,1,none⟩ (.slice none 0 0)).setCell ⟨w1.heap.size,2,none⟩ (.slice none 0 0)=w5 at *
 have CH:=ι (ChR.start FC.out (Nat.le_refl _));clear FC;go_upto_region 2 with (fail);refine Rg.wl ?_;refine Rg.la 4 (.int .i64 ((0:Nat):Int)) ?_;go_frame;have HPC:=ι (Cm.PC.nil n (Cm.Gr n gs) (Cm.idT n tr));go_wp2
 go_loopw [4] (fun iv wr=>∃ (k:Nat) (ov rv:Value) (O:List (List Nat)) (R:List (List (List Nat))),iv=.int .i64 k∧k≤n∧Hid (ChR w1.heap.size wr w1.heap.size (.int .i64 ((n:Nat):Int)) ov rv ov rv (O.map Ma.ofN) (R.map (List.map Ma.ofN)))∧Hid (Below w1.heap.size w1 wr)∧Hid (Cm.PC n (Cm.Gr n gs) (Cm.idT n tr) k O R)) (fun iv _=>n - (intOf iv).toNat)
 case atStart=>exact ⟨0,_,_,[],[],rfl,Nat.zero_le _,CH,K1,HPC⟩
 case round =>
  clear CH K1 HPC;obtain ⟨k,ov,rv,O,R,rfl,hk,CH,K1,HPC⟩:=hrel;have hsO:=CH.out.shapeO;have hsR:=CH.out.shapeR;rw [List.length_map] at hsO hsR;obtain ⟨ova,ovc,rfl⟩:=hsO;obtain ⟨rva,rvc,rfl⟩:=hsR
  by_cases hkl:k<n
  ·have hkN:(k:Int)<(n:Int):=by omega
   have HA2:=ι (orbP_asc tr k n);have HA3:=ι (fun p=>mem_orbL (p:=p) OK.out hkl);have HO1:=ι (Nat.le_trans (orbP_len tr k n) hn2);obtain ⟨l,hl⟩:∃ l,Hid (orbL n tr k=l):=⟨_,ι rfl⟩;replace HA2:Hid (l.Pairwise (· < ·)):=ι (by rw [← hl.out]; exact HA2.out);replace HO1:Hid (l.length≤64):=ι (by rw [← hl.out]; exact HO1.out);rw [hl.out] at HA3;have HO2:=ι (show 1≤l.length from List.length_pos_of_mem ((HA3.out k).2 ⟨_,Cm.idT_self⟩));have HKL:=ι hkl;have HLTS:=ι (show (∀ z,(Value.slice ova O.length ovc).ownBlock=some z→z<wr.heap.size)∧(∀ z,(Value.slice rva R.length rvc).ownBlock=some z→z<wr.heap.size)∧w1.heap.size<wr.heap.size from ⟨fun z e=>(CH.out.lts.1 z e).2,fun z e=>(CH.out.lts.2 z e).2,CH.out.tri.lt⟩);have SZ1:=ι (SZ.mk (Nat.le_refl wr.heap.size));go_upto_region 5 with (fail);refine Rg.wl ?_;refine Rg.lm 17 (.slice (some ⟨tb,tf,none⟩) n tc) ?_;go_frame
   refine Rg.lm 18 (.int .i64 ((k:Nat):Int)) ?_;go_frame;have hszW:=SZ1.out.le;refine Rg.lk 19 (exec_fn 268 _ _ _ rfl rfl rfl (Wncl1 _ _)) ?_;refine (orbit_any hn1 hn2 (HT.out.below K1.out) (fun i p u e=>tab_gd OK.out e) HKL.out).mono ?_;rintro e1 w11 ⟨v,rfl,hrow,hb⟩;rw [hl.out] at hrow;have hq:=row_of hrow.own (k:=0) (by rw [Ma.len_ofN]; exact HO2.out);rw [Ma.len_ofN] at hq;obtain ⟨sb,sc,u0,rfl,_,_,_⟩:=hq;have HBB:=ι hszW;refine ⟨_,rfl,?_⟩;go_frame;replace CH:=ι (CH.out.below hb);replace SZ1:=ι (SZ1.out.below hb);replace K1:=ι (Rg.acc K1.out hb);clear hb;have R5:=ι hrow;refine Rg.la 5 (.slice (some ⟨sb,0,none⟩) l.length sc) ?_;go_frame;clear hrow;replace HT:=ι (HT.out.below K1.out);replace FT:=ι (FT.out.below K1.out);have K5:=ι (Below.refl w11.heap.size w11);have RP:=ι (RowP.nil w11.heap.size w11);have HRS:=ι (show ∀ j,j<0→Cm.Lst n (fun z=>Cm.St (Cm.Gr n gs) k z∧Cm.ap z k=l.getD j 0) (([]:List (List Nat)).getD j []) from fun j h=>absurd h (Nat.not_lt_zero _))
   go_wp2
   go_loopw [7,6] (fun iv tv wq=>∃ (m:Nat) (rs:List (List Nat)),iv=.int .i64 m∧m≤l.length∧rs.length=m∧Hid (RowP w11.heap.size wq tv (rs.map Ma.ofN))∧Hid (Below w11.heap.size w11 wq)∧Hid (∀ j,j<m→Cm.Lst n (fun z=>Cm.St (Cm.Gr n gs) k z∧Cm.ap z k=l.getD j 0) (rs.getD j []))) (fun iv _ _=>l.length - (intOf iv).toNat)
   case atStart=>exact ⟨0,[],rfl,Nat.zero_le _,rfl,RP,K5,HRS⟩
   case round =>
    clear K5 RP HRS;obtain ⟨m,rs,rfl,hm,hrs,RP,K5,HRS⟩:=hrel
    have hlN:(l.length:Int)≤64:=by have:=HO1.out; omega
    obtain ⟨ta,tc2,rfl⟩:=RP.out.shape
    by_cases hml:m<l.length
    ·have hmN:(m:Int)<(l.length:Int):=by omega
     obtain ⟨p,hp⟩:∃ p:Nat,Hid (p=l[m]):=⟨_,ι rfl⟩
     have hcell:w11.cell? ⟨sb,0+m,none⟩=some (.int .i64 ((p:Nat):Int)):=by
      obtain ⟨g,c,u,e1,e2,e3,_⟩:=row_of R5.out.own (k:=m) (by rw [Ma.len_ofN]; exact hml);simp only [Value.slice.injEq,Option.some.injEq,Addr.mk.injEq] at e1;obtain ⟨⟨rfl,_,_⟩,_,_⟩:=e1;rw [e2,← e3,hp.out];simp [Ma.ofN,List.getElem?_eq_getElem hml]
     have CS:=ι (CL.mk hcell (lt_of_cell hcell));obtain ⟨u,hu⟩:=(HA3.out p).1 (by rw [hp.out]; exact List.getElem_mem hml);have HU:=ι hu;have HML:=ι hml;have HRL:=ι hrs;clear hcell hu hrs;go_upto_region 10 with (fail);refine Rg.wl ?_;refine Rg.lm 26 (.slice ta (rs.map Ma.ofN).length tc2) ?_;go_frame;refine Rg.lm 27 (.slice (some ⟨tb,tf,none⟩) n tc) ?_;go_frame;refine Rg.lm 28 (.int .i64 ((k:Nat):Int)) ?_;go_frame;refine Rg.lm 29 (.slice (some ⟨sb,0,none⟩) l.length sc) ?_;go_frame;refine Rg.lm 30 (.int .i64 ((m:Nat):Int)) ?_;go_frame;refine Rg.lr 31 (exec_indexS slInts _ _ rfl sb (0) (l.length) sc (m) rfl rfl HML.out) ?_;go_frame;refine Rg.lr 32 (Rg.exec_load (v:=.int .i64 ((p:Nat):Int)) _ _ rfl ⟨sb,0+m,none⟩ rfl (run_loadInt ((Below.cell (p:=⟨sb,0+m,none⟩) K5.out CS.out.lt).trans CS.out.cell))) ?_;go_frame;have HLT6:=ι (fun z e=>(RP.out.lt z e).2)
     have HSZ6:=ι K5.out.size;refine Rg.lk 33 (exec_fn3 269 _ _ _ _ rfl rfl rfl rfl (Wocl1 _ _)) ?_;refine (rleast_any hn1 hn2 (HT.out.below K5.out) HGS.out OK.out HTR.out HKL.out HU.out).mono ?_;rintro e1 w41 ⟨yv,y,B8,rfl,hB8,hrow,hli,hgy,hb⟩;obtain ⟨ca,cc,rfl⟩:=Rg.row_shape hrow;have HROW:=ι hrow;have HLI:=ι hli;have GY:=ι hgy;have HB8:=ι hB8;clear hrow hli hgy hB8;refine ⟨_,rfl,?_⟩;go_frame;replace RP:=ι (RP.out.below hb);replace K5:=ι (Rg.acc K5.out hb);clear hb;refine Rg.lr 34 (Rg.exec_buildSlice _ _ _ rfl (.slice ca (Ma.ofN y).length cc) rfl (run_build1P w41 _ ⟨_,_,_,rfl⟩)) ?_;go_frame;obtain ⟨a9,c9,X9,r1,r2,r3⟩:=RP.out.push K5.out.size HROW.out (by rw [Ma.len_ofN,GY.out.2]; omega) (fun z e=>⟨by have:=(HROW.out.lt z e).1; have:=HSZ6.out; have:=HB8.out; omega,fun e2=>by have:=(HROW.out.lt z e).1; have:=HLT6.out z e2; have:=HB8.out; omega⟩) (by rw [List.length_map,HRL.out]; have:=HO1.out; have:=HML.out; omega) 22
     refine Rg.lr 35 (Rg.exec_append _ _ _ rfl rfl rfl r1) ?_;go_frame;refine Rg.la 6 (.slice a9 ((rs.map Ma.ofN).length+1) c9) ?_;go_frame;have K6:=ι (r3 (Nat.le_refl _) K5.out);have RP2:=ι (show RowP w11.heap.size X9 (.slice a9 ((rs.map Ma.ofN).length+1) c9) ((rs++[y]).map Ma.ofN) by rw [List.map_append]; exact r2);have HLS:=ι (Cm.LI.done HH.out HKL.out ⟨HTR.out.mem k p u HKL.out HU.out,HTR.out.rp.fx k p u (Nat.zero_le _) HKL.out HU.out⟩ HLI.out)
     have HRS2:=ι (show ∀ j,j<m+1→Cm.Lst n (fun z=>Cm.St (Cm.Gr n gs) k z∧Cm.ap z k=l.getD j 0) ((rs++[y]).getD j []) from fun j hj=>by
      have hl:=HRL.out
      by_cases e:j=m
      ·subst e
       have e1:(rs++[y]).getD j []=y:=by
        rw [List.getD_eq_getElem?_getD,List.getElem?_append_right (by omega),hl]; simp
       have e2:l.getD j 0=p:=by
        rw [hp.out,List.getD_eq_getElem?_getD,List.getElem?_eq_getElem HML.out]; rfl
       have e3:Cm.ap u k=p:=HTR.out.rp.at_ k p u (Nat.zero_le _) HKL.out HU.out;rw [e1,e2];have:=HLS.out
       rwa [e3] at this
      ·have e1:(rs++[y]).getD j []=rs.getD j []:=by
        rw [List.getD_eq_getElem?_getD,List.getD_eq_getElem?_getD,List.getElem?_append_left (by omega)]
       rw [e1]
       exact HRS.out j (by omega))
     have HRL2:=ι (show (rs++[y]).length=m+1 by rw [List.length_append,HRL.out]; rfl);clear r1 r2 r3;go_wp2
     go_roundw
     case rel=>exact ⟨m+1,rs++[y],by go_num,HML.out,HRL2.out,RP2,K6,HRS2⟩
     case measure=>simp [intOf]; have:=HML.out; omega
    ·obtain rfl:m=l.length:=by omega
     have hmN:¬ (l.length:Int)<(l.length:Int):=by omega
     replace CH:=ι (CH.out.below K5.out);replace K1:=ι (Rg.acc K1.out K5.out);have SZ5:=SZ1.out.le;replace SZ1:=ι (SZ1.out.below K5.out);have hR5:=R5.out.below K5.out
     have PD:=ι (Pend.mk CH.out (hR5.fi (by rw [Ma.len_ofN]; omega) (G:=GS2 w1.heap.size wr w1.heap.size (Value.slice ova O.length ovc) (Value.slice rva R.length rvc)) (fun z g1 g2=>⟨by have:=HBB.out; have:=HLTS.out.2.2; omega,g2,fun e=>by have:=HBB.out; have:=HLTS.out.1 z e; omega,fun e=>by have:=HBB.out; have:=HLTS.out.2.1 z e; omega,by have:=HBB.out; have:=HLTS.out.2.2; omega⟩))
      (RP.out.frows (by rw [List.length_map,hrs]; omega) (G:=GS2 w1.heap.size wr w1.heap.size (Value.slice ova O.length ovc) (Value.slice rva R.length rvc)) (fun z g1 g2=>⟨by have:=HLTS.out.2.2; omega,g2,fun e=>by have:=HLTS.out.1 z e; omega,fun e=>by have:=HLTS.out.2.1 z e; omega,by have:=HLTS.out.2.2; omega⟩)))
     have HRSL:=ι hrs;have HOL:=ι (show (O.map Ma.ofN).length<1000000 by rw [List.length_map,HPC.out.lenO]; omega);have HRLn:=ι (show (R.map (List.map Ma.ofN)).length<1000000 by rw [List.length_map,HPC.out.lenR]; omega);clear SZ5 hR5 CH RP R5 FT hrs;go_upto_region 11 with (fail);have hV1:Below wr.heap.size wr wr.drew:=(Below.refl _ _).drew;replace PD:=ι (PD.out.below hV1);replace K1:=ι (Rg.acc K1.out hV1);replace SZ1:=ι (SZ1.out.below hV1);clear hV1;have hV0:Below wr.heap.size wr wr.drew:=(Below.refl _ _).drew;generalize Fup F wr wr.drew=F1 at *;clear hV0;refine Rg.Any.begin (S:=Rg.Both 11 (fun W:World=>Tri W w1.heap.size (.int .i64 ((n:Nat):Int)) (Value.slice ova O.length ovc) (Value.slice rva R.length rvc)∧Below w1.heap.size w1 W) (fun _=>True)) mix ?_;generalize wr.drew=w61 at *;have hS:∀ (l:Array Bool) W,(fun W:World=>Tri W w1.heap.size (.int .i64 ((n:Nat):Int)) (Value.slice ova O.length ovc) (Value.slice rva R.length rvc)∧Below w1.heap.size w1 W) W→Rg.Both 11 (fun W:World=>Tri W w1.heap.size (.int .i64 ((n:Nat):Int)) (Value.slice ova O.length ovc) (Value.slice rva R.length rvc)∧Below w1.heap.size w1 W) (fun _=>True) l W:=fun l W h=>⟨.inr h,trivial⟩
     have hS2:∀ (l:Array Bool) W,l.getD 11 false=true→Rg.Both 11 (fun W:World=>Tri W w1.heap.size (.int .i64 ((n:Nat):Int)) (Value.slice ova O.length ovc) (Value.slice rva R.length rvc)∧Below w1.heap.size w1 W) (fun _=>True) l W:=fun l W h=>⟨.inl h,trivial⟩;have hI:(fun W:World=>Tri W w1.heap.size (.int .i64 ((n:Nat):Int)) (Value.slice ova O.length ovc) (Value.slice rva R.length rvc)∧Below w1.heap.size w1 W) w61:=⟨PD.out.ch.tri,K1.out⟩;refine Rg.tg 0 11 (.pointer (some ⟨w1.heap.size,1,none⟩)) 36 rfl rfl (.inl ⟨rfl,fun w _=>exec_field _ rfl rfl (chF1 _ _)⟩) (hS _ _ hI) ?_;go_frame;refine Rg.Any.takeT (i:=1) (t:=11) (v:=.slice ova O.length ovc) (some 37) rfl rfl (by kernel_rfl) (by kernel_rfl) (by kernel_rfl) (fun _ _ _ h=>h) rfl (by kernel_rfl) rfl (Rg.yields_cell _ _ rfl rfl ⟨w1.heap.size,1,none⟩ rfl (fun W hW=>Rg.run_loadSl _ _ Tryz.underlying27 hW.1.c1)) (hS _ _ hI) ?_;go_frame
     refine Rg.tm 2 11 (.slice (some ⟨sb,0,none⟩) l.length sc) 38 (hS _ _ hI) ?_;go_frame;refine Rg.tg 5 11 (.pointer (some ⟨w1.heap.size,2,none⟩)) 41 rfl rfl (.inl ⟨rfl,fun w _=>exec_field _ rfl rfl (chF2 _ _)⟩) (hS _ _ hI) ?_;go_frame;refine Rg.Any.takeT (i:=6) (t:=11) (v:=.slice rva R.length rvc) (some 42) rfl rfl (by kernel_rfl) (by kernel_rfl) (by kernel_rfl) (fun _ _ _ h=>h) rfl (by kernel_rfl) rfl (Rg.yields_cell _ _ rfl rfl ⟨w1.heap.size,2,none⟩ rfl (fun W hW=>Rg.run_loadSl _ _ Tryz.underlying52 hW.1.c2)) (hS _ _ hI) ?_;go_frame;refine Rg.tm 7 11 (.slice ta (rs.map Ma.ofN).length tc2) 43 (hS _ _ hI) ?_;go_frame
     refine Rg.Any.c2f1q (i:=3) (k:=4) (j:=8) (q:=10) (di:=39) (dk:=40) (dj:=44) (dq:=46) (vq:=.pointer (some ⟨w1.heap.size,1,none⟩)) (I:=fun W=>(fun W:World=>Tri W w1.heap.size (.int .i64 ((n:Nat):Int)) (Value.slice ova O.length ovc) (Value.slice rva R.length rvc)∧Below w1.heap.size w1 W) W∧w61.heap.size≤W.heap.size) (R0:=fun W=>Pend w1.heap.size W w1.heap.size (.int .i64 ((n:Nat):Int)) (Value.slice ova O.length ovc) (Value.slice rva R.length rvc) (Value.slice ova O.length ovc) (Value.slice rva R.length rvc) (O.map Ma.ofN) (R.map (List.map Ma.ofN)) (.slice (some ⟨sb,0,none⟩) l.length sc) (Ma.ofN l) (.slice ta (rs.map Ma.ofN).length tc2) (rs.map Ma.ofN)) (Ri:=fun u W=>Rg.BlkF w61.heap.size [.slice (some ⟨sb,0,none⟩) l.length sc] u W) (Rk:=fun x W=>ChR w1.heap.size W w1.heap.size (.int .i64 ((n:Nat):Int)) (Value.slice ova O.length ovc) (Value.slice rva R.length rvc) x (Value.slice rva R.length rvc) (O.map Ma.ofN++[Ma.ofN l]) (R.map (List.map Ma.ofN))∧Rg.FRows (GS2 w1.heap.size W w1.heap.size x (Value.slice rva R.length rvc)) W (.slice ta (rs.map Ma.ofN).length tc2) (rs.map Ma.ofN)∧∃ a c,x=.slice a (O.length+1) c) (Rj:=fun v W=>Rg.BlkF w61.heap.size [.slice ta (rs.map Ma.ofN).length tc2] v W) (fun l W h=>hS l W h.1)
      (by decide) (by decide) (by decide) (by decide) (by decide) (by decide) (by kernel_rfl) (by kernel_rfl) (by kernel_rfl) (by kernel_rfl) (by kernel_rfl) ?_ ?_
      (fun _ _ hb h=>h.below hb) (fun _ _ _ hb h=>h.below hb) (fun _ _ _ hb h=>⟨h.1.below hb,frows_below h.2.1 hb,h.2.2⟩) (fun _ _ _ hb h=>h.below hb) ?_ ?_ ?_ ⟨hI,Nat.le_refl _⟩ (PD.out) ?_
     ·intro u x W m hs h
      exact Rg.Any.takeG (i:=10) (t:=11) (v:=.pointer (some ⟨w1.heap.size,1,none⟩)) (some 46) rfl rfl (by kernel_rfl) (by kernel_rfl) (by kernel_rfl) (fun _ _ _ h=>h) rfl (.inl ⟨rfl,fun w _=>exec_field _ rfl rfl (chF1 _ _)⟩) hs h
     ·intro u v x W m hs h
      exact Rg.Any.takeG (i:=10) (t:=11) (v:=.pointer (some ⟨w1.heap.size,1,none⟩)) (some 46) rfl rfl (by kernel_rfl) (by kernel_rfl) (by kernel_rfl) (fun _ _ _ h=>h) rfl (.inl ⟨rfl,fun w _=>exec_field _ rfl rfl (chF1 _ _)⟩) hs h
     ·intro b hb W hW
      have hbA:Below W.heap.size W (W.alloc (.cells #[.slice (some ⟨sb,0,none⟩) l.length sc] 36)):=(Below.refl _ _).alloc (Nat.le_refl _) _
      exact Rg.doesRun rfl rfl (by rcases hb with rfl | ⟨u,rfl⟩ <;> rfl) (Rg.exec_buildSlice _ _ _ rfl (.slice (some ⟨sb,0,none⟩) l.length sc) (by rcases hb with rfl | ⟨u,rfl⟩ <;> rfl) (run_build1L W _ ⟨_,_,_,rfl⟩)) ⟨⟨⟨hW.1.1.below hbA,Rg.acc hW.1.2 hbA⟩,by simp; have:=hW.2; omega⟩,Rg.BlkF.new W [.slice (some ⟨sb,0,none⟩) l.length sc] 36 hW.2,hbA⟩
     ·intro b hb W hW
      have hbA:Below W.heap.size W (W.alloc (.cells #[.slice ta (rs.map Ma.ofN).length tc2] 22)):=(Below.refl _ _).alloc (Nat.le_refl _) _
      exact Rg.doesRun rfl rfl (by rcases hb with rfl | ⟨u,rfl⟩ | ⟨u,v,rfl⟩ <;> rfl) (Rg.exec_buildSlice _ _ _ rfl (.slice ta (rs.map Ma.ofN).length tc2) (by rcases hb with rfl | ⟨u,rfl⟩ | ⟨u,v,rfl⟩ <;> rfl) (run_build1PP W _ ⟨_,_,_,rfl⟩)) ⟨⟨⟨hW.1.1.below hbA,Rg.acc hW.1.2 hbA⟩,by simp; have:=hW.2; omega⟩,Rg.BlkF.new W [.slice ta (rs.map Ma.ofN).length tc2] 22 hW.2,hbA⟩
     ·intro u b hb W hW h0 hu
      obtain ⟨pu,rfl,hp0,hp1,hp2⟩:=hu;obtain ⟨a2,c2,X,r1,r2,r3,r4⟩:=h0.ch.pushO hW.1.2.size h0.f5 rfl HOL.out (hp2 0 (by simp)) 27;have hkX:=Rg.Kp.of_grown r3 (M:=fun z=>(Value.slice ova O.length ovc).ownBlock=some z) (fun _ e=>e)
      exact Rg.doesRun rfl rfl (by rcases hb with rfl | ⟨v,rfl⟩ <;> rfl) (Rg.exec_append _ _ _ rfl (by rcases hb with rfl | ⟨v,rfl⟩ <;> rfl) (by rcases hb with rfl | ⟨v,rfl⟩ <;> rfl) r1) ⟨⟨⟨r2.tri,hW.1.2.grown r3 hW.1.2.size (fun j e=>(h0.ch.lts.1 j e).1)⟩,Nat.le_trans hW.2 r3.size⟩,⟨r2,FRows.mono (FRows.kp h0.f6 hkX (fun z g e=>g.2.2.1 e)) r4,_,_,by rw [List.length_map]⟩,fun v hv=>hv.grown r3 (fun j e=>Nat.lt_of_lt_of_le (HLTS.out.1 j e) SZ1.out.le)⟩
     rintro w62 fu fx fv hb hk hj;have hI2_f:=hb.1;have hVsz:=hb.2;clear hb hI;go_frame;have FK:=ι hk;have FJ:=ι hj;obtain ⟨pj,hje,hj0,hj1,hj2⟩:=FJ.out;subst hje;obtain ⟨a2,c2,hfx⟩:=FK.out.2.2;subst hfx;obtain ⟨a3,c3,X3,q1,q2,q3⟩:=FK.out.1.pushR hI2_f.2.size FK.out.2.1 rfl HRLn.out (hj2 0 (by simp)) 52;rw [List.length_map] at q1 q2;have hI3_m:=(show _∧_ from ⟨q2.tri,hI2_f.2.grown q3 hI2_f.2.size (fun j e=>(FK.out.1.lts.2 j e).1)⟩);refine Rg.Any.one (i:=9) (by kernel_rfl) (Rg.Any.run (some 45) rfl rfl rfl (Rg.exec_append _ _ _ rfl rfl rfl q1) (hS _ _ hI3_m) ?_);go_frame;have KX:=ι hI3_m.2;refine Rg.Any.one (i:=11) (by kernel_rfl) (Rg.Any.runSkip none rfl rfl rfl (Rg.exec_store _ _ _ rfl _ rfl _ rfl (Rg.run_storeSl _ infoIntss q2.tri.c1 q2.tri.f1)) (hS2 _ _ rfl) ?_);go_frame;refine Rg.tg 12 11 (.pointer (some ⟨w1.heap.size,2,none⟩)) 47 rfl rfl (.inl ⟨rfl,fun w _=>exec_field _ rfl rfl (chF2 _ _)⟩) (hS2 _ _ rfl) ?_;go_frame
     refine Rg.Any.one (i:=13) (by kernel_rfl) (Rg.Any.runSkip none rfl rfl rfl (Rg.exec_store _ _ _ rfl _ rfl _ rfl (Rg.run_storeSl _ infoPermss (q2.tri.set1 _).c2 (q2.tri.set1 _).f2)) (hS2 _ _ rfl) ?_);go_frame;refine Rg.Any.done (by kernel_rfl) ?_ _;clear hS2;clear hS hI3_m;have hst:=q2.store (.slice a2 (O.length+1) c2) (.slice a3 (R.length+1) c3);have hkk:=(KX.out.setCell (p:=⟨w1.heap.size,1,none⟩) (Nat.le_refl _) (.slice a2 (O.length+1) c2)).setCell (p:=⟨w1.heap.size,2,none⟩) (Nat.le_refl _) (.slice a3 (R.length+1) c3);generalize (X3.setCell ⟨w1.heap.size,1,none⟩ (.slice a2 (O.length+1) c2)).setCell ⟨w1.heap.size,2,none⟩ (.slice a3 (R.length+1) c3)=w99 at *;have CH2:=ι (show ChR w1.heap.size w99 w1.heap.size (.int .i64 ((n:Nat):Int)) (.slice a2 (O.length+1) c2) (.slice a3 (R.length+1) c3) (.slice a2 (O.length+1) c2) (.slice a3 (R.length+1) c3) ((O++[l]).map Ma.ofN) ((R++[rs]).map (List.map Ma.ofN)) by rw [List.map_append,List.map_append]; exact hst)
     have K2:=ι hkk;have HP2:=ι (HPC.out.snoc HA2.out (fun p=>HA3.out p) HRSL.out HRS.out);clear hst hkk q1 q2 q3 KX FK FJ PD;go_wp2
     go_roundw
     case rel=>exact ⟨k+1,_,_,O++[l],R++[rs],by go_num,HKL.out,CH2,K2,HP2⟩
     case measure=>simp [intOf]; have:=HKL.out; omega
  ·obtain rfl:k=n:=by omega
   have hkN:¬ (k:Int)<(k:Int):=by omega
   have TT:=ι (FT.out.below K1.out);go_upto_region 12 with (fail);refine Rg.wl ?_;refine Rg.lr 48 (Rg.exec_load _ _ rfl ⟨w1.heap.size,0,none⟩ rfl (run_loadC CH.out.tri)) ?_;go_frame;refine Rg.list_skip none rfl rfl (Rg.exec_store _ _ _ rfl _ rfl _ rfl (run_storeC _ _ _ _ _ _ _ TT.out)) ?_;go_frame;have hkt:=Rg.Kp.trans (Rg.Kp.trans (Rg.Kp.of_setCell (M:=fun z=>z=w.heap.size) (w:=wr) (a:=⟨w.heap.size,0,none⟩) (v:=.int .i64 ((k:Nat):Int)) rfl) (Rg.Kp.of_setCell (M:=fun z=>z=w.heap.size) (a:=⟨w.heap.size,1,none⟩) (v:=(Value.slice ova O.length ovc)) rfl) (fun _ _ e=>e)) (Rg.Kp.of_setCell (M:=fun z=>z=w.heap.size) (a:=⟨w.heap.size,2,none⟩) (v:=(Value.slice rva R.length rvc)) rfl) (fun _ _ e=>e);have hch:=CH.out.kp hkt (fun z e=>by rw [e]; exact hlo1);have htt:=TT.out.set (.int .i64 ((k:Nat):Int)) (Value.slice ova O.length ovc) (Value.slice rva R.length rvc)
   have hkf:=((((K.out.trans (K1.out.mono K.out.size)).setCell (p:=⟨w.heap.size,0,none⟩) (Nat.le_refl _) (.int .i64 ((k:Nat):Int))).setCell (p:=⟨w.heap.size,1,none⟩) (Nat.le_refl _) (Value.slice ova O.length ovc)).setCell (p:=⟨w.heap.size,2,none⟩) (Nat.le_refl _) (Value.slice rva R.length rvc));have hfin:=HPC.out.isChain HTR.out
   have hfr2:∀ (X:World) (c0 c1 c2 a b:Value),ChR w1.heap.size X w1.heap.size c0 c1 c2 a b (O.map Ma.ofN) (R.map (List.map Ma.ofN))→FRows2 (fun z=>w.heap.size≤z) X b (R.map (List.map Ma.ofN)):=fun _ _ _ _ _ _ h=>by
    obtain ⟨us,h1,h2⟩:=h.frR (by rw [List.length_map,HPC.out.lenR]; omega);exact ⟨us,h1.mono (fun z hz=>by omega),FElts2.mono h2 (fun z hz=>by omega)⟩
   go_wp2;exact bodyPost_ret (results_cellC rfl _ rfl htt) rfl ⟨_,_,rfl,O,FRows.mono (hch.frO (by rw [List.length_map,HPC.out.lenO]; omega)) (fun z hz=>by omega),R,hfr2 _ _ _ _ _ _ hch,hfin,hkf⟩
end Go.Proofs.YthehbckogieimaaGreat

namespace Go.Proofs.YthehbckogieimaaGreat
open Go.RowKit
open Go.Proofs
open Go.Proofs.Ob
open Go.Proofs.Cm (Tr TabOk)
attribute [local irreducible] Go.Calls Go.wpList
theorem Wpcl0 (args:Array Value) (w:World):(callFunc 119 args).run Tryz.prog w=.ok (.enter 119 args) w:=by kernel_rfl
theorem Wpcl1 (args:Array Value) (w:World):(callFunc 197 args).run Tryz.prog w=.ok (.enter 197 args) w:=by kernel_rfl
theorem Wpcl3 (args:Array Value) (w:World):(callFunc 199 args).run Tryz.prog w=.ok (.enter 199 args) w:=by kernel_rfl
theorem Wpcl4 (args:Array Value) (w:World):(callFunc 200 args).run Tryz.prog w=.ok (.enter 200 args) w:=by kernel_rfl
theorem FRows2.mono {F F':Nat→Prop} {w:World} {v:Value} {lll:List (List (List Int))} (h:FRows2 F w v lll) (hF:∀ k,F k→F' k):FRows2 F' w v lll:=by
 obtain ⟨us,h1,h2⟩:=h;exact ⟨us,h1.mono hF,FElts2.mono h2 hF⟩
def ChIsF (B:Nat) (w:World) (cv:Value) (n:Nat) (gs:List (List Nat)):Prop:=∃ ov rv O R,cv=.agg #[.int .i64 ((n:Nat):Int),ov,rv]∧Rg.FRows (fun z=>B≤z) w ov (O.map Ma.ofN)∧FRows2 (fun z=>B≤z) w rv (R.map (List.map Ma.ofN))∧Cm.IsChain n (Cm.Gr n (·∈gs)) O R
def ChAnsF (B:Nat) (w:World) (d:Int) (ll:List (List Int)) (cv:Value) (c:Int):Prop:=(c≠0∧cv=zeroC)∨(c=0∧∃ n gs,d=((n:Nat):Int)∧ll=gs.map Ma.ofN∧1≤n∧n≤64∧ChIsF B w cv n gs)
theorem ChAnsF.kp {B:Nat} {M:Nat→Prop} {w w':World} {d:Int} {ll:List (List Int)} {cv:Value} {c:Int} (h:ChAnsF B w d ll cv c) (hk:Rg.Kp M w w') (hM:∀ z,M z→z<B):ChAnsF B w' d ll cv c:=by
 rcases h with h | ⟨h0,n,gs,h1,h2,h3,h4,ov,rv,O,R,h5,h6,h7,h8⟩
 ·exact .inl h
 ·exact .inr ⟨h0,n,gs,h1,h2,h3,h4,ov,rv,O,R,h5,FRows.kp h6 hk (fun z g e=>by have:=hM z e; omega),h7.kp hk (fun z g e=>by have:=hM z e; omega),h8⟩
theorem ChAnsF.ans {B:Nat} {w:World} {d:Int} {ll:List (List Int)} {cv:Value} {c:Int} (h:ChAnsF B w d ll cv c):ChAns w d ll cv c:=by
 rcases h with h | ⟨h0,n,gs,h1,h2,h3,h4,ov,rv,O,R,h5,h6,h7,h8⟩
 ·exact .inl h
 ·exact .inr ⟨h0,n,gs,h1,h2,h3,h4,ov,rv,O,R,h5,FRows.rows h6,h7.rows,h8⟩
theorem ChAns.shape {w:World} {d:Int} {ll:List (List Int)} {cv:Value} {c:Int} (h:ChAns w d ll cv c):∃ e a n k a' n' k',cv=.agg #[.int .i64 e,.slice a n k,.slice a' n' k']:=by
 rcases h with ⟨_,rfl⟩ | ⟨h0,n,gs,h1,h2,h3,h4,ov,rv,O,R,h5,h6,h7,h8⟩
 ·exact ⟨_,_,_,_,_,_,_,rfl⟩
 ·obtain ⟨oa,oc,rfl,_⟩:=h6.shape
  obtain ⟨ra,rc,rfl⟩:=h7.shape;exact ⟨_,_,_,_,_,_,_,h5⟩
theorem GS.kg {F F':Nat→Prop} {w w':World} {v:Value} {gs:List (List Nat)} (h:GS F w v gs) (hk:KG F w F' w'):GS F' w' v gs:=by
 obtain ⟨a,c,e,h1⟩:=h;refine ⟨a,c,e,fun h0=>?_⟩;obtain ⟨b,o,e2,h2⟩:=h1 h0;refine ⟨b,o,e2,fun k hk2=>?_⟩;obtain ⟨u,h3,h4⟩:=h2 k hk2;exact ⟨u,h3.kg hk,h4.kg hk⟩
theorem GS.at {F:Nat→Prop} {w:World} {b o n c:Nat} {gs:List (List Nat)} (h:GS F w (.slice (some ⟨b,o,none⟩) n c) gs) {k:Nat} (hk:k<gs.length):∃ u,CF F w b (o+k) u∧FP F w u gs[k]:=by
 obtain ⟨a,c',e,h1⟩:=h;obtain ⟨b',o',e2,h2⟩:=h1 (by omega)
 injection e with e3 _ _
 rw [e2] at e3;simp only [Option.some.injEq,Addr.mk.injEq,and_true] at e3;obtain ⟨rfl,rfl⟩:=e3;exact h2 k hk
theorem empty_b {n:Nat} (hn1:1≤n) (hn2:n≤64) (w:World) :
  Calls Tryz.prog 197 #[.int .i64 ((n:Nat):Int)] w fun e w'=>∃ tb c F Rb,e=.returned (.slice (some ⟨tb,0,none⟩) n c)∧KG (fun k=>k<w.heap.size) w F w'∧TabAt F tb 0 n w' (fun _ _=>none) Rb (fun _ _=>.slice none 0 0)∧Below w.heap.size w w':=by
 refine (empty_any hn1 hn2 w).mono ?_;rintro e w' ⟨tb,c,F,Rb,rfl,h1,h2⟩;exact ⟨tb,c,F,Rb,rfl,h1,h2,h1.kf.below (Nat.le_refl _) (fun _ h=>h)⟩
theorem rMake_any (gv:Value) (d:Int) (ll:List (List Int)) (w:World) (h:Rg.Rows w gv ll) :
  Calls Tryz.prog 120 #[.int .i64 d,gv] w fun e w'=>∃ cv,e=.returned (.tuple #[cv,.int .i64 (mkchk d ll)])∧ChAnsF w.heap.size w' d ll cv (mkchk d ll)∧Below w.heap.size w w':=by
 obtain ⟨ga,gc,rfl,hcap,hbig,_,hgs⟩:=h.shape;have G0:=ι h;have HGS:=ι hgs;have K:=ι (Below.refl w.heap.size w);clear h hgs hcap
 go_enter Tryz.func120,Tryz.ntmps120
 go_upto_region 0 with (fail);refine Rg.wl ?_;have hnew:=Tri.new w (.int .i64 0) (.slice none 0 0) (.slice none 0 0);refine Rg.lr 4 (exec_allocC rfl) ?_;go_frame;have hb:=(Below.refl w.heap.size w).alloc (Nat.le_refl _) (.cells #[.int .i64 0,.slice none 0 0,.slice none 0 0] 54);generalize w.alloc (.cells #[.int .i64 0,.slice none 0 0,.slice none 0 0] 54)=w1 at *;replace G0:=ι (G0.out.below hb);replace K:=ι (Rg.acc K.out hb);clear hb;have FT:=ι hnew;refine Rg.la 5 (.int .i64 ((0:Nat):Int)) ?_;go_frame;clear hnew;have K1:=ι (Below.refl w1.heap.size w1);have KB:=K;clear K;have hlo:=FT.out.lt
 by_cases hd1:d<1
 ·have HC:=ι (show mkchk d ll=2 by unfold mkchk; rw [if_neg (by omega)])
  go_upto_region 1 with (fail);refine Rg.wl ?_;refine Rg.lm 10 (.int .i64 d) ?_;go_frame;refine Rg.lr 11 (exec_bin (R:=.bool true) .lss _ _ _ rfl rfl rfl (b_lss _ Rg.dT)) ?_;go_frame;refine Rg.lm 12 (.bool true) ?_;go_frame;refine listW_pass (some 13) (by kernel_rfl) rfl ?_;go_frame;refine listW_pass (some 14) (by kernel_rfl) rfl ?_;go_frame;refine Rg.lr 15 (exec_pickT (v:=.bool true) _ _ _ rfl rfl rfl) ?_;go_frame;have FT2:=ι (FT.out.below K1.out);have KX:=ι (KB.out.trans (K1.out.mono KB.out.size));go_upto_region 2 with (fail);refine Rg.wl ?_;refine Rg.lr 16 (exec_buildC0 rfl) ?_;go_frame;refine Rg.list_skip none rfl rfl (Rg.exec_store _ _ _ rfl _ rfl _ rfl (run_storeC _ _ _ _ _ _ _ FT2.out)) ?_;go_frame;refine Rg.la 5 (.int .i64 ((2:Nat):Int)) ?_;go_frame;have hfz:=fin_zero FT2.out KX.out (Nat.le_refl _);generalize ((w1.setCell ⟨w.heap.size,0,none⟩ (.int .i64 0)).setCell ⟨w.heap.size,1,none⟩ (.slice none 0 0)).setCell ⟨w.heap.size,2,none⟩ (.slice none 0 0)=w99 at *
  have HFI:=ι (show ∃ cv,Ending.returned (.tuple #[zeroC,.int .i64 (2)])=.returned (.tuple #[cv,.int .i64 (mkchk d ll)])∧ChAnsF w.heap.size w99 d ll cv (mkchk d ll)∧Below w.heap.size w w99 from
   ⟨_,by rw [HC.out],.inl ⟨by rw [HC.out]; decide,rfl⟩,hfz.2⟩)
  have HTT:=ι hfz.1;clear hfz;go_wp2;exact bodyPost_ret (results_cellC2 (p:=4) (u:=5) rfl _ rfl rfl HTT.out) rfl HFI.out
 by_cases hd2:64<d
 ·have HC:=ι (show mkchk d ll=2 by unfold mkchk; rw [if_neg (by omega)])
  go_upto_region 1 with (fail);refine Rg.wl ?_;refine Rg.lm 10 (.int .i64 d) ?_;go_frame;refine Rg.lr 11 (exec_bin (R:=.bool false) .lss _ _ _ rfl rfl rfl (b_lss _ Rg.dF)) ?_;go_frame;refine Rg.lm 12 (.bool false) ?_;go_frame;refine Rg.lW 13 (Rg.xm (.int .i64 d) _ rfl rfl) ?_;go_frame;refine Rg.lW 14 (exec_bin (R:=.bool true) .gtr _ _ _ rfl rfl rfl (b_gtr _ Rg.dT)) ?_;go_frame;refine Rg.lr 15 (exec_pickF (v:=.bool true) _ _ _ rfl rfl rfl) ?_;go_frame;have FT2:=ι (FT.out.below K1.out);have KX:=ι (KB.out.trans (K1.out.mono KB.out.size));go_upto_region 2 with (fail);refine Rg.wl ?_;refine Rg.lr 16 (exec_buildC0 rfl) ?_;go_frame;refine Rg.list_skip none rfl rfl (Rg.exec_store _ _ _ rfl _ rfl _ rfl (run_storeC _ _ _ _ _ _ _ FT2.out)) ?_;go_frame;refine Rg.la 5 (.int .i64 ((2:Nat):Int)) ?_;go_frame;have hfz:=fin_zero FT2.out KX.out (Nat.le_refl _);generalize ((w1.setCell ⟨w.heap.size,0,none⟩ (.int .i64 0)).setCell ⟨w.heap.size,1,none⟩ (.slice none 0 0)).setCell ⟨w.heap.size,2,none⟩ (.slice none 0 0)=w99 at *
  have HFI:=ι (show ∃ cv,Ending.returned (.tuple #[zeroC,.int .i64 (2)])=.returned (.tuple #[cv,.int .i64 (mkchk d ll)])∧ChAnsF w.heap.size w99 d ll cv (mkchk d ll)∧Below w.heap.size w w99 from
   ⟨_,by rw [HC.out],.inl ⟨by rw [HC.out]; decide,rfl⟩,hfz.2⟩)
  have HTT:=ι hfz.1;clear hfz;go_wp2;exact bodyPost_ret (results_cellC2 (p:=4) (u:=5) rfl _ rfl rfl HTT.out) rfl HFI.out
 have hd3:1≤d∧d≤64:=by omega
 go_upto_region 1 with (fail);refine Rg.wl ?_;refine Rg.lm 10 (.int .i64 d) ?_;go_frame;refine Rg.lr 11 (exec_bin (R:=.bool false) .lss _ _ _ rfl rfl rfl (b_lss _ Rg.dF)) ?_;go_frame;refine Rg.lm 12 (.bool false) ?_;go_frame;refine Rg.lW 13 (Rg.xm (.int .i64 d) _ rfl rfl) ?_;go_frame;refine Rg.lW 14 (exec_bin (R:=.bool false) .gtr _ _ _ rfl rfl rfl (b_gtr _ Rg.dF)) ?_;go_frame;refine Rg.lr 15 (exec_pickF (v:=.bool false) _ _ _ rfl rfl rfl) ?_;go_frame
 by_cases hg1:4096<ll.length
 ·have HC:=ι (show mkchk d ll=4 by unfold mkchk; rw [if_pos hd3,if_neg (by omega)])
  go_upto_region 3 with (fail);refine Rg.wl ?_;refine Rg.lm 17 (.slice ga ll.length gc) ?_;go_frame;refine Rg.lr 18 (exec_len _ _ _ rfl Tryz.underlying22 _ _ _ rfl) ?_;go_frame;refine Rg.lr 19 (exec_bin (R:=.bool true) .gtr _ _ _ rfl rfl rfl (b_gtr _ Rg.dT)) ?_;go_frame;have FT2:=ι (FT.out.below K1.out);have KX:=ι (KB.out.trans (K1.out.mono KB.out.size));go_upto_region 4 with (fail);refine Rg.wl ?_;refine Rg.lr 20 (exec_buildC0 rfl) ?_;go_frame;refine Rg.list_skip none rfl rfl (Rg.exec_store _ _ _ rfl _ rfl _ rfl (run_storeC _ _ _ _ _ _ _ FT2.out)) ?_;go_frame;refine Rg.la 5 (.int .i64 ((4:Nat):Int)) ?_;go_frame;have hfz:=fin_zero FT2.out KX.out (Nat.le_refl _);generalize ((w1.setCell ⟨w.heap.size,0,none⟩ (.int .i64 0)).setCell ⟨w.heap.size,1,none⟩ (.slice none 0 0)).setCell ⟨w.heap.size,2,none⟩ (.slice none 0 0)=w99 at *
  have HFI:=ι (show ∃ cv,Ending.returned (.tuple #[zeroC,.int .i64 (4)])=.returned (.tuple #[cv,.int .i64 (mkchk d ll)])∧ChAnsF w.heap.size w99 d ll cv (mkchk d ll)∧Below w.heap.size w w99 from
   ⟨_,by rw [HC.out],.inl ⟨by rw [HC.out]; decide,rfl⟩,hfz.2⟩)
  have HTT:=ι hfz.1;clear hfz;go_wp2;exact bodyPost_ret (results_cellC2 (p:=4) (u:=5) rfl _ rfl rfl HTT.out) rfl HFI.out
 have HC0:=ι (show mkchk d ll=Ma.gck d ll by unfold mkchk; rw [if_pos hd3,if_pos (by omega)]);have HG0:=ι (show Ma.gck d (ll.drop 0)=Ma.gck d ll by rw [List.drop_zero]);go_upto_region 3 with (fail);refine Rg.wl ?_;refine Rg.lm 17 (.slice ga ll.length gc) ?_;go_frame;refine Rg.lr 18 (exec_len _ _ _ rfl Tryz.underlying22 _ _ _ rfl) ?_;go_frame;refine Rg.lr 19 (exec_bin (R:=.bool false) .gtr _ _ _ rfl rfl rfl (b_gtr _ Rg.dF)) ?_;go_frame;go_wp2
 go_loopw [6] (fun kv wr=>∃ k:Nat,kv=.int .i64 k∧k≤ll.length∧Hid (Below w1.heap.size w1 wr)∧Hid (Ma.gck d (ll.drop k)=Ma.gck d ll)) (fun kv _=>ll.length - (intOf kv).toNat)
 case atStart=>exact ⟨0,rfl,Nat.zero_le _,K1,HG0⟩
 case round =>
  clear K1 HG0;obtain ⟨k,rfl,hk,K1,HG0⟩:=hrel
  by_cases hkl:k<ll.length
  ·have hkN:(k:Int)<(ll.length:Int):=by omega
   have hgs:=HGS.out;obtain ⟨gb,go,rfl,hgb,hgk⟩:=hgs (by omega);obtain ⟨u,hcu,hxu⟩:=hgk k hkl;obtain ⟨x,hx⟩:∃ x,Hid (ll[k]=x):=⟨_,ι rfl⟩;rw [hx.out] at hxu;have CU:=ι (CL.mk ((KB.out.cell (p:=⟨gb,go+k,none⟩) hgb).trans hcu) (Nat.lt_of_lt_of_le hgb KB.out.size));have XU:=ι (Rg.Ints.below hxu KB.out);obtain ⟨xa,xc,rfl,_⟩:=hxu.shape;have HKL:=ι hkl;have hxl:=XU.out.len;have HXL:=ι (show x.length≤1000000000 by obtain ⟨n,a,c,e,_,e2⟩:=hxl; omega);clear hgs hgk hcu hxu hxl hgb;go_upto_region 8 with (fail);refine Rg.wl ?_;refine Rg.lm 27 (.slice (some ⟨gb,go,none⟩) ll.length gc) ?_;go_frame;refine Rg.lm 28 (.int .i64 ((k:Nat):Int)) ?_;go_frame;refine Rg.lr 29 (exec_indexS slPerms _ _ rfl gb (go) (ll.length) gc (k) rfl rfl HKL.out) ?_;go_frame;refine Rg.lr 30 (Rg.exec_load (v:=.slice xa x.length xc) _ _ rfl ⟨gb,go+k,none⟩ rfl (Rg.run_loadSl _ _ Tryz.underlying51 ((Below.cell (p:=⟨gb,go+k,none⟩) K1.out CU.out.lt).trans CU.out.cell))) ?_;go_frame
   refine Rg.lk 31 (exec_fn1 119 _ _ rfl rfl (Wpcl0 _ _)) ?_;refine (refPermCheck_any _ _ wr (XU.out.below K1.out)).mono ?_;rintro e1 w11 ⟨rfl,hb⟩;refine ⟨_,rfl,?_⟩;go_frame;replace K1:=ι (Rg.acc K1.out hb);clear hb;refine Rg.la 7 (.int .i64 (Ma.pchk x)) ?_;go_frame
   by_cases hp0:Ma.pchk x=0
   ·by_cases hxd:(x.length:Int)=d
    ·skip
     go_upto_region 9 with (fail);refine Rg.wl ?_;refine Rg.lm 32 (.int .i64 (Ma.pchk x)) ?_;go_frame;refine Rg.lr 33 (exec_bin (R:=.bool false) .neq _ _ _ rfl rfl rfl (b_neqB _ Rg.dF)) ?_;go_frame;go_upto_region 11 with (fail);refine Rg.wl ?_;refine Rg.lm 36 (.slice (some ⟨gb,go,none⟩) ll.length gc) ?_;go_frame;refine Rg.lm 37 (.int .i64 ((k:Nat):Int)) ?_;go_frame;refine Rg.lr 38 (exec_indexS slPerms _ _ rfl gb (go) (ll.length) gc (k) rfl rfl HKL.out) ?_;go_frame;refine Rg.lr 39 (Rg.exec_load (v:=.slice xa x.length xc) _ _ rfl ⟨gb,go+k,none⟩ rfl (Rg.run_loadSl _ _ Tryz.underlying51 ((Below.cell (p:=⟨gb,go+k,none⟩) K1.out CU.out.lt).trans CU.out.cell))) ?_;go_frame;refine Rg.lr 40 (exec_len _ _ _ rfl Tryz.underlying51 _ _ _ rfl) ?_;go_frame;refine Rg.lm 41 (.int .i64 d) ?_;go_frame;refine Rg.lr 42 (exec_bin (R:=.bool false) .neq _ _ _ rfl rfl rfl (b_neqB _ Rg.dF)) ?_;go_frame
     have HG1:=ι (show Ma.gck d (ll.drop (k+1))=Ma.gck d ll by rw [← Ma.gck_next HKL.out (by rw [hx.out]; exact hp0) (by rw [hx.out]; exact hxd)]; exact HG0.out);go_wp2
     go_roundw
     case rel=>exact ⟨k+1,by go_num,HKL.out,K1,HG1⟩
     case measure=>simp [intOf]; have:=HKL.out; omega
    ·have HC:=ι (show mkchk d ll=10 by rw [HC0.out,← HG0.out]; exact Ma.gck_len HKL.out (by rw [hx.out]; exact hp0) (by rw [hx.out]; exact hxd))
     go_upto_region 9 with (fail);refine Rg.wl ?_;refine Rg.lm 32 (.int .i64 (Ma.pchk x)) ?_;go_frame;refine Rg.lr 33 (exec_bin (R:=.bool false) .neq _ _ _ rfl rfl rfl (b_neqB _ Rg.dF)) ?_;go_frame;go_upto_region 11 with (fail);refine Rg.wl ?_;refine Rg.lm 36 (.slice (some ⟨gb,go,none⟩) ll.length gc) ?_;go_frame;refine Rg.lm 37 (.int .i64 ((k:Nat):Int)) ?_;go_frame;refine Rg.lr 38 (exec_indexS slPerms _ _ rfl gb (go) (ll.length) gc (k) rfl rfl HKL.out) ?_;go_frame;refine Rg.lr 39 (Rg.exec_load (v:=.slice xa x.length xc) _ _ rfl ⟨gb,go+k,none⟩ rfl (Rg.run_loadSl _ _ Tryz.underlying51 ((Below.cell (p:=⟨gb,go+k,none⟩) K1.out CU.out.lt).trans CU.out.cell))) ?_;go_frame;refine Rg.lr 40 (exec_len _ _ _ rfl Tryz.underlying51 _ _ _ rfl) ?_;go_frame;refine Rg.lm 41 (.int .i64 d) ?_;go_frame;refine Rg.lr 42 (exec_bin (R:=.bool true) .neq _ _ _ rfl rfl rfl (b_neqB _ Rg.dT)) ?_;go_frame
     have FT2:=ι (FT.out.below K1.out);have KX:=ι (KB.out.trans (K1.out.mono KB.out.size));go_upto_region 12 with (fail);refine Rg.wl ?_;refine Rg.lr 43 (exec_buildC0 rfl) ?_;go_frame;refine Rg.list_skip none rfl rfl (Rg.exec_store _ _ _ rfl _ rfl _ rfl (run_storeC _ _ _ _ _ _ _ FT2.out)) ?_;go_frame;refine Rg.la 5 (.int .i64 ((10:Nat):Int)) ?_;go_frame;have hfz:=fin_zero FT2.out KX.out (Nat.le_refl _);generalize ((w11.setCell ⟨w.heap.size,0,none⟩ (.int .i64 0)).setCell ⟨w.heap.size,1,none⟩ (.slice none 0 0)).setCell ⟨w.heap.size,2,none⟩ (.slice none 0 0)=w99 at *
     have HFI:=ι (show ∃ cv,Ending.returned (.tuple #[zeroC,.int .i64 (10)])=.returned (.tuple #[cv,.int .i64 (mkchk d ll)])∧ChAnsF w.heap.size w99 d ll cv (mkchk d ll)∧Below w.heap.size w w99 from
      ⟨_,by rw [HC.out],.inl ⟨by rw [HC.out]; decide,rfl⟩,hfz.2⟩)
     have HTT:=ι hfz.1;clear hfz;go_wp2;exact bodyPost_ret (results_cellC2 (p:=4) (u:=5) rfl _ rfl rfl HTT.out) rfl HFI.out
   ·have HC:=ι (show mkchk d ll=Ma.pchk x by rw [HC0.out,← HG0.out,Ma.gck_bad HKL.out (by rw [hx.out]; exact hp0),hx.out])
    go_upto_region 9 with (fail);refine Rg.wl ?_;refine Rg.lm 32 (.int .i64 (Ma.pchk x)) ?_;go_frame;refine Rg.lr 33 (exec_bin (R:=.bool true) .neq _ _ _ rfl rfl rfl (b_neqB _ Rg.dT)) ?_;go_frame;have FT2:=ι (FT.out.below K1.out);have KX:=ι (KB.out.trans (K1.out.mono KB.out.size));go_upto_region 10 with (fail);refine Rg.wl ?_;refine Rg.lr 34 (exec_buildC0 rfl) ?_;go_frame;refine Rg.lm 35 (.int .i64 (Ma.pchk x)) ?_;go_frame;refine Rg.list_skip none rfl rfl (Rg.exec_store _ _ _ rfl _ rfl _ rfl (run_storeC _ _ _ _ _ _ _ FT2.out)) ?_;go_frame;refine Rg.la 5 (.int .i64 (Ma.pchk x)) ?_;go_frame;have hfz:=fin_zero FT2.out KX.out (Nat.le_refl _);generalize ((w11.setCell ⟨w.heap.size,0,none⟩ (.int .i64 0)).setCell ⟨w.heap.size,1,none⟩ (.slice none 0 0)).setCell ⟨w.heap.size,2,none⟩ (.slice none 0 0)=w99 at *
    have HFI:=ι (show ∃ cv,Ending.returned (.tuple #[zeroC,.int .i64 (Ma.pchk x)])=.returned (.tuple #[cv,.int .i64 (mkchk d ll)])∧ChAnsF w.heap.size w99 d ll cv (mkchk d ll)∧Below w.heap.size w w99 from
     ⟨_,by rw [HC.out],.inl ⟨by rw [HC.out]; exact hp0,rfl⟩,hfz.2⟩)
    have HTT:=ι hfz.1;clear hfz;go_wp2;exact bodyPost_ret (results_cellC2 (p:=4) (u:=5) rfl _ rfl rfl HTT.out) rfl HFI.out
  ·obtain rfl:k=ll.length:=by omega
   have hkN:¬ (ll.length:Int)<(ll.length:Int):=by omega
   have hz:=HG0.out;rw [Ma.gck_end (Nat.le_refl _)] at hz;obtain ⟨n,gs,hdn,hll,hgd,hn1,hn2,hgl⟩:=mk_ok hd3.1 hd3.2 hz.symm;have HLL:=ι hll;have HGL:=ι hgl;have HGD:=ι hgd;have HC:=ι (show mkchk d ll=0 by rw [HC0.out]; exact hz.symm);subst hdn;have FT2:=ι (FT.out.below K1.out);have KX:=ι (KB.out.trans (K1.out.mono KB.out.size));have GR:=ι (Rg.Rows.below G0.out K1.out);clear hll hgl hgd hz;have HWD:=ι FT2.out.lt;have KXB:=KX;have hgs0:GS (fun k=>k<wr.heap.size) wr (.slice ga ll.length gc) gs:=GS.of_rows (by have:=GR.out; rw [show gs.map Ma.ofN=ll from HLL.out.symm]; exact this);go_upto_region 13 with (fail);refine Rg.wl ?_;refine Rg.lm 44 (.int .i64 ((n:Nat):Int)) ?_;go_frame;refine Rg.lk 45 (exec_fn1 197 _ _ rfl rfl (Wpcl1 _ _)) ?_;refine (empty_b hn1 hn2 wr).mono ?_;rintro e1 w61 ⟨tb,tc,F0,Rb,rfl,hkg,htab,hb⟩;have GE:=ι (hgs0.kg hkg)
   have TE:=ι htab;have KGA:=ι hkg;clear hkg htab hgs0;refine ⟨_,rfl,?_⟩;go_frame;replace FT2:=ι (FT2.out.below hb);replace GR:=ι (GR.out.below hb);replace KX:=ι (Rg.acc KX.out hb);clear hb;refine Rg.la 8 (.slice (some ⟨tb,0,none⟩) n tc) ?_;go_frame;obtain ⟨wB,hwB⟩:∃ W,Hid (W=wr):=⟨_,ι rfl⟩;rw [← hwB.out] at KGA HWD KXB;clear hwB GR;have KE:=ι (KG.refl TE.out.Flt);have OK0:=ι (Cm.TabOk.nil0 (n:=n) (gs:=(·∈gs)));have HS0:=ι (show ∀ a (h:a<gs.length),a<0→Cm.Sd n (Cm.idT n (fun _ _=>none)) n gs[a] from fun a _ h=>absurd h (Nat.not_lt_zero _));have HGN:=HGL;go_wp2
   go_loopw [9] (fun jv wr=>∃ (j:Nat) (F1:Nat→Prop) (V:Nat→Nat→Value) (tr:Tr),jv=.int .i64 j∧j≤ll.length∧Hid (TabAt F1 tb 0 n wr tr Rb V)∧Hid (KG F0 w61 F1 wr)∧Hid (TabOk n (·∈gs) tr)∧Hid (∀ a (h:a<gs.length),a<j→Cm.Sd n (Cm.idT n tr) n gs[a])) (fun jv _=>ll.length - (intOf jv).toNat)
   case atStart=>exact ⟨0,_,_,_,rfl,Nat.zero_le _,TE,KE,OK0,HS0⟩
   case round =>
    clear TE KE OK0 HS0;obtain ⟨j,F,V,tr,rfl,hj,HT,KE,OK,HS⟩:=hrel
    by_cases hjl:j<ll.length
    ·have hjN:(j:Int)<(ll.length:Int):=by omega
     have HJL:=ι hjl
     have hjg:j<gs.length:=by have:=HGN.out; omega
     have HJG:=ι hjg
     have hga:∃ gb go,ga=some ⟨gb,go,none⟩:=by
      obtain ⟨a,c,e,h1⟩:=GE.out;obtain ⟨b,o,e2,_⟩:=h1 (by omega)
      injection e with e _ _
      exact ⟨b,o,e.trans e2⟩
     obtain ⟨gb,go,rfl⟩:=hga;obtain ⟨u,hcu,hxu⟩:=GE.out.at hjg;obtain ⟨x,hx⟩:∃ x:List Nat,Hid (gs[j]'hjg=x):=⟨_,ι rfl⟩
     replace hxu:FP F0 w61 u x:=by rw [← hx.out]; exact hxu
     have GX:=ι (show Cm.Gd n x by rw [← hx.out]; exact HGD.out _ (List.getElem_mem hjg));have hgx:Cm.Gr n (·∈gs) x:=.gen _ (by rw [← hx.out]; exact List.getElem_mem hjg);have CU:=ι (hcu.kg KE.out);have XU:=ι (hxu.kg KE.out);have hins:=tab_ins HGD.out OK.out hgx;clear hcu hxu hgx;go_upto_region 17 with (fail);refine Rg.wl ?_;refine Rg.lm 52 (.slice (some ⟨tb,0,none⟩) n tc) ?_;go_frame;refine Rg.lm 53 (.slice (some ⟨gb,go,none⟩) ll.length gc) ?_;go_frame;refine Rg.lm 54 (.int .i64 ((j:Nat):Int)) ?_;go_frame;refine Rg.lr 55 (exec_indexS slPerms _ _ rfl gb (go) (ll.length) gc (j) rfl rfl HJL.out) ?_;go_frame;refine Rg.lr 56 (Rg.exec_load (v:=u) _ _ rfl ⟨gb,go+j,none⟩ rfl (Rg.run_loadSl _ _ Tryz.underlying51 CU.out.cell)) ?_;go_frame;refine Rg.lk 57 (exec_fn 198 _ _ _ rfl rfl rfl (Wlcl2 _ _)) ?_;refine (insert_any hn1 hn2 HT.out OK.out.rp XU.out GX.out).mono ?_;rintro e1 w81 ⟨F9,V9,rfl,hki,htab⟩
     have hkg:=hki.kg;refine ⟨_,rfl,?_⟩;go_frame;clear HT;clear CU;clear XU;replace KE:=ι (KE.out.trans hkg);have HT:=ι htab;clear hkg;clear hki htab;generalize insT n tr (Cm.sfP n (Cm.idT n tr) n x)=tr2 at *;have OK2:=ι hins.1
     have HS2:=ι (show ∀ a (h:a<gs.length),a<j+1→Cm.Sd n (Cm.idT n tr2) n gs[a] from fun a h ha=>by
      by_cases e:a=j
      ·subst e
       rw [show gs[a]=x from hx.out]; exact hins.2.2.1
      ·exact Cm.Sd.mono (fun i p u _=>hins.2.1 i p u) (HS.out a h (by omega)))
     clear hins;go_wp2
     go_roundw
     case rel=>exact ⟨j+1,_,_,_,by go_num,HJL.out,HT,KE,OK2,HS2⟩
     case measure=>simp [intOf]; have:=HJL.out; omega
    ·obtain rfl:j=ll.length:=by omega
     have hjN:¬ (ll.length:Int)<(ll.length:Int):=by omega
     have HSA:=ι (show ∀ s,s∈gs→Cm.Sd n (Cm.idT n tr) n s from fun s hs=>by
      obtain ⟨a,ha,rfl⟩:=List.getElem_of_mem hs
      exact HS.out a ha (by have:=HGN.out; omega))
     go_upto_region 18 with (fail);refine Rg.wl ?_;refine Rg.lm 58 (.slice (some ⟨tb,0,none⟩) n tc) ?_;go_frame;refine Rg.lk 59 (exec_fn1 199 _ _ rfl rfl (Wpcl3 _ _)) ?_;refine (rclose_any hn1 hn2 HT.out HGD.out OK.out HSA.out).mono ?_;rintro e1 w91 ⟨F9,V9,tr9,rfl,hkg,htab,hok9,htr9⟩;have OK9:=ι hok9;have TR9:=ι htr9;clear hok9 htr9;refine ⟨_,rfl,?_⟩;go_frame;clear HT;replace KE:=ι (KE.out.trans hkg);have HT:=ι htab;clear hkg;clear htab;have hbk:Below wB.heap.size wB w91:=(KGA.out.trans KE.out).kf.below (Nat.le_refl _) (fun _ h=>h);have hbe:Below wB.heap.size wB w61:=KGA.out.kf.below (Nat.le_refl _) (fun _ h=>h);have FT3:=ι (show Tri w91 w.heap.size (.int .i64 0) (.slice none 0 0) (.slice none 0 0) from FT2.out.kp KE.out.kf (fun h=>h (KGA.out.sub _ HWD.out)));have KY:=ι (show Below w.heap.size w w91 from (KXB.out.trans (hbk.mono KXB.out.size)));clear hbk hbe FT2 KX KE KGA
     go_upto_region 19 with (fail);refine Rg.wl ?_;refine Rg.lm 60 (.slice (some ⟨tb,0,none⟩) n tc) ?_;go_frame;have HWB:=ι FT3.out.lt;refine Rg.lk 61 (exec_fn1 200 _ _ rfl rfl (Wpcl4 _ _)) ?_;refine (rchain_any hn1 hn2 HT.out HGD.out OK9.out TR9.out).mono ?_;rintro e1 w92 ⟨ov,rv,O,R,rfl,hO,hR,hCh,hb⟩;have HWC:=ι (Nat.lt_of_lt_of_le HWB.out hb.size);obtain ⟨oa,oc,rfl,_⟩:=hO.rows.shape;obtain ⟨ra,rc,rfl⟩:=hR.rows.shape;have HO:=ι hO;have HR:=ι hR;have HCH:=ι hCh;clear hO hR hCh;refine ⟨_,rfl,?_⟩;go_frame;replace FT3:=ι (FT3.out.below hb);replace HT:=ι (HT.out.below hb);replace KY:=ι (Rg.acc KY.out hb);clear hb;refine Rg.list_skip none rfl rfl (Rg.exec_store _ _ _ rfl _ rfl _ rfl (run_storeC _ _ _ _ _ _ _ FT3.out)) ?_;go_frame;refine Rg.la 5 (.int .i64 ((0:Nat):Int)) ?_;go_frame;have htt:=FT3.out.set (.int .i64 ((n:Nat):Int)) (.slice oa (O.map Ma.ofN).length oc) (.slice ra (R.map (List.map Ma.ofN)).length rc)
     have hkt:=Rg.Kp.trans (Rg.Kp.trans (Rg.Kp.of_setCell (M:=fun z=>z=w.heap.size) (w:=w92) (a:=⟨w.heap.size,0,none⟩) (v:=.int .i64 ((n:Nat):Int)) rfl) (Rg.Kp.of_setCell (M:=fun z=>z=w.heap.size) (a:=⟨w.heap.size,1,none⟩) (v:=(.slice oa (O.map Ma.ofN).length oc)) rfl) (fun _ _ e=>e)) (Rg.Kp.of_setCell (M:=fun z=>z=w.heap.size) (a:=⟨w.heap.size,2,none⟩) (v:=(.slice ra (R.map (List.map Ma.ofN)).length rc)) rfl) (fun _ _ e=>e);have hro:=FRows.mono (F':=fun z=>w.heap.size≤z) (FRows.kp HO.out hkt (fun z g e=>by have:=HWB.out; omega)) (fun z hz=>by have:=HWB.out; omega);have hrr:=(HR.out.kp hkt (fun z g e=>by have:=HWB.out; omega)).mono (F':=fun z=>w.heap.size≤z) (fun z hz=>by have:=HWB.out; omega);have hkf:=((KY.out.setCell (p:=⟨w.heap.size,0,none⟩) (Nat.le_refl _) (.int .i64 ((n:Nat):Int))).setCell (p:=⟨w.heap.size,1,none⟩) (Nat.le_refl _) (.slice oa (O.map Ma.ofN).length oc)).setCell (p:=⟨w.heap.size,2,none⟩) (Nat.le_refl _) (.slice ra (R.map (List.map Ma.ofN)).length rc)
     generalize ((w92.setCell ⟨w.heap.size,0,none⟩ (.int .i64 ((n:Nat):Int))).setCell ⟨w.heap.size,1,none⟩ (.slice oa (O.map Ma.ofN).length oc)).setCell ⟨w.heap.size,2,none⟩ (.slice ra (R.map (List.map Ma.ofN)).length rc)=w99 at *;have HTT:=ι htt
     have HFI:=ι (show ∃ cv,Ending.returned (.tuple #[.agg #[.int .i64 ((n:Nat):Int),(.slice oa (O.map Ma.ofN).length oc),(.slice ra (R.map (List.map Ma.ofN)).length rc)],.int .i64 0])=.returned (.tuple #[cv,.int .i64 (mkchk ((n:Nat):Int) ll)])∧ChAnsF w.heap.size w99 ((n:Nat):Int) ll cv (mkchk ((n:Nat):Int) ll)∧Below w.heap.size w w99 from
      ⟨_,by rw [HC.out],.inr ⟨HC.out,n,gs,rfl,HLL.out,hn1,hn2,_,_,O,R,rfl,hro,hrr,HCH.out⟩,hkf⟩)
     clear htt hkt hro hrr hkf;go_wp2;exact bodyPost_ret (results_cellC2 (p:=4) (u:=5) rfl _ rfl rfl HTT.out) rfl HFI.out
end Go.Proofs.YthehbckogieimaaGreat

namespace Go.Proofs.YthehbckogieimaaGreat
open Go.RowKit
open Go.Proofs
open Go.Proofs.Ob
attribute [local irreducible] Go.Calls Go.wpList
theorem exec_fnv2 {o:Oper} {a:Act} {w:World} {u1 u2:Value} (F:FuncId) (x y f:Operand) (tys:Array TypeId) (ho:o.op=.call { callee:=.value f,args:=#[x,y],argTypes:=tys }) (hf:a.eval f=.func (.func F) #[] #[]) (hx:a.eval x=u1) (hy:a.eval y=u2)
  (hF:(callFunc F #[u1,u2]).run Tryz.prog w=.ok (.enter F #[u1,u2]) w):(execOp a.eval o).run Tryz.prog w=.ok (.enter F #[u1,u2]) w:=by
 unfold execOp;simp [ho,hx,hy,hf,resolve,invoke,Deferred.ofValue,hF]
def EqAsk (F:FuncId) (w0:World) (us vs:List Value) (p:Nat→Bool):Prop:=∀ i (h:i<us.length) (h2:i<vs.length) (W:World),Below w0.heap.size w0 W→Calls Tryz.prog F #[us[i],vs[i]] W fun e W'=>e=.returned (.bool (p i))∧Below W.heap.size W W'
def eqAll (m n:Nat) (p:Nat→Bool):Bool:=m == n && (List.range m).all p
theorem eqAll_len {m n:Nat} {p:Nat→Bool} (h:m≠n):eqAll m n p=false:=by unfold eqAll; simp [h]
theorem eqAll_all {m:Nat} {p:Nat→Bool} (h:(List.range m).all p=true):eqAll m m p=true:=by unfold eqAll; simp [h]
theorem eqAll_no {m:Nat} {p:Nat→Bool} {k:Nat} (hk:k<m) (h:p k=false):eqAll m m p=false:=by
 unfold eqAll;rw [Bool.and_eq_false_iff]
 right
 rw [List.all_eq_false];exact ⟨k,List.mem_range.2 hk,by simp [h]⟩
theorem rangeAll_next {p:Nat→Bool} {k:Nat} (h:(List.range k).all p=true) (h2:p k=true):(List.range (k+1)).all p=true:=by
 rw [List.range_succ,List.all_append];simp [h,h2]
theorem eqAll_iff {m n:Nat} {p:Nat→Bool}:eqAll m n p=true↔m=n∧∀ i,i<m→p i=true:=by
 unfold eqAll;simp
theorem eqAll_dec {α:Type} [DecidableEq α] {l m:List α} {p:Nat→Bool} (h:∀ i (h1:i<l.length) (h2:i<m.length),p i=decide (l[i]=m[i])):eqAll l.length m.length p=decide (l=m):=by
 rw [Bool.eq_iff_iff,eqAll_iff,decide_eq_true_iff]
 constructor
 ·rintro ⟨h1,h2⟩
  refine List.ext_getElem h1 fun i a b=>?_;have:=h2 i a;rw [h i a b] at this;exact of_decide_eq_true this
 ·rintro rfl
  exact ⟨rfl,fun i hi=>by rw [h i hi hi]; simp⟩
theorem eqFuncI_any {va vb:Value} {us vs:List Value} {w:World} (h1:Rg.Vals w va us) (h2:Rg.Vals w vb vs) (F:FuncId) (hF:∀ args W,(callFunc F args).run Tryz.prog W=.ok (.enter F args) W) {p:Nat→Bool} (hp:EqAsk F w us vs p) :
  Calls Tryz.prog 140 #[va,vb,.func (.func F) #[] #[]] w fun e w'=>e=.returned (.bool (eqAll us.length vs.length p))∧Below w.heap.size w w':=by
 obtain ⟨ad,cap,rfl,_,_,hlm,hcell⟩:=h1;obtain ⟨ad2,cap2,rfl,_,_,hlm2,hcell2⟩:=h2;unfold Rg.big at hlm hlm2;have Hc:=ι hcell;have Hc2:=ι hcell2;have HP:=ι hp;have K:=ι (Below.refl w.heap.size w);clear hcell hcell2 hp
 go_enter Tryz.func140,Tryz.ntmps140
 by_cases hne:us.length=vs.length
 ·have hneN:(us.length:Int)=(vs.length:Int):=by omega
  have HNE:=ι hne;go_upto_region 1 with (fail);refine Rg.wl ?_;refine Rg.lm 10 (.slice ad us.length cap) ?_;go_frame;refine Rg.lr 11 (exec_len _ _ _ rfl Tryz.underlying27 _ _ _ rfl) ?_;go_frame;refine Rg.lm 12 (.slice ad2 vs.length cap2) ?_;go_frame;refine Rg.lr 13 (exec_len _ _ _ rfl Tryz.underlying27 _ _ _ rfl) ?_;go_frame;refine Rg.lr 14 (exec_bin (R:=.bool false) .neq _ _ _ rfl rfl rfl (b_neqB _ Rg.dF)) ?_;go_frame;have HA:=ι (show (List.range 0).all p=true from rfl);go_wp2
  go_loopw [17] (fun kv wr=>∃ k:Nat,kv=.int .i64 k∧k≤us.length∧Hid ((List.range k).all p=true)∧Hid (Below w.heap.size w wr)) (fun kv _=>us.length - (intOf kv).toNat)
  case atStart=>exact ⟨0,rfl,Nat.zero_le _,HA,K⟩
  case round =>
   clear HA K;obtain ⟨k,rfl,hk,HA,K⟩:=hrel
   by_cases hkl:k<us.length
   ·have hkN:(k:Int)<(us.length:Int):=by omega
    have hkl2:k<vs.length:=by omega
    have HKL:=ι hkl;have HKL2:=ι hkl2;obtain ⟨b,o,rfl,hb,hc⟩:=Hc.out (by omega);obtain ⟨b2,o2,rfl,hb2,hc2⟩:=Hc2.out (by omega);obtain ⟨x,hx⟩:∃ x:Value,Hid (us[k]'hkl=x):=⟨_,ι rfl⟩;obtain ⟨y,hy⟩:∃ y:Value,Hid (vs[k]'hkl2=y):=⟨_,ι rfl⟩;have CX:=ι (CL.mk (show w.cell? ⟨b,o+k,none⟩=some x by rw [← hx.out]; exact hc k hkl) hb);have CY:=ι (CL.mk (show w.cell? ⟨b2,o2+k,none⟩=some y by rw [← hy.out]; exact hc2 k hkl2) hb2);have hask:=HP.out k hkl hkl2 wr K.out;rw [show us[k]=x from hx.out,show vs[k]=y from hy.out] at hask;have HK:=ι hask;clear hc hc2 hask hb hb2
    cases hpk:p k with
    | true =>
     have HPK:=ι hpk;rw [hpk] at HK;have HA2:=ι (rangeAll_next HA.out hpk);clear hpk;go_upto_region 5 with (fail);refine Rg.wl ?_;refine Rg.lm 19 (.int .i64 ((k:Nat):Int)) ?_;go_frame;refine Rg.lr 20 (exec_indexS slIntss _ _ rfl b (o) (us.length) cap (k) rfl rfl HKL.out) ?_;go_frame;refine Rg.lr 21 (Rg.exec_load (v:=x) _ _ rfl ⟨b,o+k,none⟩ rfl (Rg.run_loadSl _ _ Tryz.underlying36 ((Below.cell (p:=⟨b,o+k,none⟩) K.out CX.out.lt).trans CX.out.cell))) ?_;go_frame;refine Rg.la 7 (.int .i64 ((k:Nat):Int)) ?_;go_frame;refine Rg.la 8 (x) ?_;go_frame;go_upto_region 6 with (fail);refine Rg.wl ?_;refine Rg.lm 22 (.slice (some ⟨b2,o2,none⟩) vs.length cap2) ?_;go_frame;refine Rg.lm 23 (.int .i64 ((k:Nat):Int)) ?_;go_frame;refine Rg.lr 24 (exec_indexS slIntss _ _ rfl b2 (o2) (vs.length) cap2 (k) rfl rfl HKL2.out) ?_;go_frame;refine Rg.lr 25 (Rg.exec_load (v:=y) _ _ rfl ⟨b2,o2+k,none⟩ rfl (Rg.run_loadSl _ _ Tryz.underlying36 ((Below.cell (p:=⟨b2,o2+k,none⟩) K.out CY.out.lt).trans CY.out.cell))) ?_;go_frame
     refine Rg.la 9 (y) ?_;go_frame;go_upto_region 7 with (fail);refine Rg.wl ?_;refine Rg.lm 26 (.func (.func F) #[] #[]) ?_;go_frame;refine Rg.lm 27 (x) ?_;go_frame;refine Rg.lm 28 (y) ?_;go_frame;refine Rg.lk 29 (exec_fnv2 F _ _ _ _ rfl rfl rfl rfl (hF _ _)) ?_;refine (HK.out).mono ?_;rintro e1 w11 ⟨rfl,hb⟩;refine ⟨_,rfl,?_⟩;go_frame;replace K:=ι (Rg.acc K.out hb);clear hb;refine Rg.lr 30 (exec_not _ _ true rfl rfl) ?_;go_frame;go_wp2
     go_roundw
     case rel=>exact ⟨k+1,by go_num,HKL.out,HA2,K⟩
     case measure=>simp [intOf]; have:=HKL.out; omega
    | false =>
     rw [hpk] at HK;have HR:=ι (eqAll_no hkl hpk);clear hpk;go_upto_region 5 with (fail);refine Rg.wl ?_;refine Rg.lm 19 (.int .i64 ((k:Nat):Int)) ?_;go_frame;refine Rg.lr 20 (exec_indexS slIntss _ _ rfl b (o) (us.length) cap (k) rfl rfl HKL.out) ?_;go_frame;refine Rg.lr 21 (Rg.exec_load (v:=x) _ _ rfl ⟨b,o+k,none⟩ rfl (Rg.run_loadSl _ _ Tryz.underlying36 ((Below.cell (p:=⟨b,o+k,none⟩) K.out CX.out.lt).trans CX.out.cell))) ?_;go_frame;refine Rg.la 7 (.int .i64 ((k:Nat):Int)) ?_;go_frame;refine Rg.la 8 (x) ?_;go_frame;go_upto_region 6 with (fail);refine Rg.wl ?_;refine Rg.lm 22 (.slice (some ⟨b2,o2,none⟩) vs.length cap2) ?_;go_frame;refine Rg.lm 23 (.int .i64 ((k:Nat):Int)) ?_;go_frame;refine Rg.lr 24 (exec_indexS slIntss _ _ rfl b2 (o2) (vs.length) cap2 (k) rfl rfl HKL2.out) ?_;go_frame;refine Rg.lr 25 (Rg.exec_load (v:=y) _ _ rfl ⟨b2,o2+k,none⟩ rfl (Rg.run_loadSl _ _ Tryz.underlying36 ((Below.cell (p:=⟨b2,o2+k,none⟩) K.out CY.out.lt).trans CY.out.cell))) ?_;go_frame
     refine Rg.la 9 (y) ?_;go_frame;go_upto_region 7 with (fail);refine Rg.wl ?_;refine Rg.lm 26 (.func (.func F) #[] #[]) ?_;go_frame;refine Rg.lm 27 (x) ?_;go_frame;refine Rg.lm 28 (y) ?_;go_frame;refine Rg.lk 29 (exec_fnv2 F _ _ _ _ rfl rfl rfl rfl (hF _ _)) ?_;refine (HK.out).mono ?_;rintro e1 w11 ⟨rfl,hb⟩;refine ⟨_,rfl,?_⟩;go_frame;replace K:=ι (Rg.acc K.out hb);clear hb;refine Rg.lr 30 (exec_not _ _ false rfl rfl) ?_;go_frame;go_wp2;go_ret;exact ⟨by rw [← HNE.out,HR.out]; rfl,K.out⟩
   ·obtain rfl:k=us.length:=by omega
    have hkN:¬ (us.length:Int)<(us.length:Int):=by omega
    have HR:=ι (eqAll_all HA.out);go_wp2;go_ret;exact ⟨by rw [← HNE.out,HR.out]; rfl,K.out⟩
 ·have hneN:¬ (us.length:Int)=(vs.length:Int):=by omega
  have HR:=ι (eqAll_len (p:=p) hne);go_upto_region 1 with (fail);refine Rg.wl ?_;refine Rg.lm 10 (.slice ad us.length cap) ?_;go_frame;refine Rg.lr 11 (exec_len _ _ _ rfl Tryz.underlying27 _ _ _ rfl) ?_;go_frame;refine Rg.lm 12 (.slice ad2 vs.length cap2) ?_;go_frame;refine Rg.lr 13 (exec_len _ _ _ rfl Tryz.underlying27 _ _ _ rfl) ?_;go_frame;refine Rg.lr 14 (exec_bin (R:=.bool true) .neq _ _ _ rfl rfl rfl (b_neqB _ Rg.dT)) ?_;go_frame;go_wp2;go_ret;exact ⟨by rw [HR.out]; rfl,K.out⟩
theorem eqFuncR_any {va vb:Value} {us vs:List Value} {w:World} (h1:Rg.Vals w va us) (h2:Rg.Vals w vb vs) (F:FuncId) (hF:∀ args W,(callFunc F args).run Tryz.prog W=.ok (.enter F args) W) {p:Nat→Bool} (hp:EqAsk F w us vs p) :
  Calls Tryz.prog 186 #[va,vb,.func (.func F) #[] #[]] w fun e w'=>e=.returned (.bool (eqAll us.length vs.length p))∧Below w.heap.size w w':=by
 obtain ⟨ad,cap,rfl,_,_,hlm,hcell⟩:=h1;obtain ⟨ad2,cap2,rfl,_,_,hlm2,hcell2⟩:=h2;unfold Rg.big at hlm hlm2;have Hc:=ι hcell;have Hc2:=ι hcell2;have HP:=ι hp;have K:=ι (Below.refl w.heap.size w);clear hcell hcell2 hp
 go_enter Tryz.func186,Tryz.ntmps186
 by_cases hne:us.length=vs.length
 ·have hneN:(us.length:Int)=(vs.length:Int):=by omega
  have HNE:=ι hne;go_upto_region 1 with (fail);refine Rg.wl ?_;refine Rg.lm 10 (.slice ad us.length cap) ?_;go_frame;refine Rg.lr 11 (exec_len _ _ _ rfl Tryz.underlying52 _ _ _ rfl) ?_;go_frame;refine Rg.lm 12 (.slice ad2 vs.length cap2) ?_;go_frame;refine Rg.lr 13 (exec_len _ _ _ rfl Tryz.underlying52 _ _ _ rfl) ?_;go_frame;refine Rg.lr 14 (exec_bin (R:=.bool false) .neq _ _ _ rfl rfl rfl (b_neqB _ Rg.dF)) ?_;go_frame;have HA:=ι (show (List.range 0).all p=true from rfl);go_wp2
  go_loopw [17] (fun kv wr=>∃ k:Nat,kv=.int .i64 k∧k≤us.length∧Hid ((List.range k).all p=true)∧Hid (Below w.heap.size w wr)) (fun kv _=>us.length - (intOf kv).toNat)
  case atStart=>exact ⟨0,rfl,Nat.zero_le _,HA,K⟩
  case round =>
   clear HA K;obtain ⟨k,rfl,hk,HA,K⟩:=hrel
   by_cases hkl:k<us.length
   ·have hkN:(k:Int)<(us.length:Int):=by omega
    have hkl2:k<vs.length:=by omega
    have HKL:=ι hkl;have HKL2:=ι hkl2;obtain ⟨b,o,rfl,hb,hc⟩:=Hc.out (by omega);obtain ⟨b2,o2,rfl,hb2,hc2⟩:=Hc2.out (by omega);obtain ⟨x,hx⟩:∃ x:Value,Hid (us[k]'hkl=x):=⟨_,ι rfl⟩;obtain ⟨y,hy⟩:∃ y:Value,Hid (vs[k]'hkl2=y):=⟨_,ι rfl⟩;have CX:=ι (CL.mk (show w.cell? ⟨b,o+k,none⟩=some x by rw [← hx.out]; exact hc k hkl) hb);have CY:=ι (CL.mk (show w.cell? ⟨b2,o2+k,none⟩=some y by rw [← hy.out]; exact hc2 k hkl2) hb2);have hask:=HP.out k hkl hkl2 wr K.out;rw [show us[k]=x from hx.out,show vs[k]=y from hy.out] at hask;have HK:=ι hask;clear hc hc2 hask hb hb2
    cases hpk:p k with
    | true =>
     have HPK:=ι hpk;rw [hpk] at HK;have HA2:=ι (rangeAll_next HA.out hpk);clear hpk;go_upto_region 5 with (fail);refine Rg.wl ?_;refine Rg.lm 19 (.int .i64 ((k:Nat):Int)) ?_;go_frame;refine Rg.lr 20 (exec_indexS slPermss _ _ rfl b (o) (us.length) cap (k) rfl rfl HKL.out) ?_;go_frame;refine Rg.lr 21 (Rg.exec_load (v:=x) _ _ rfl ⟨b,o+k,none⟩ rfl (Rg.run_loadSl _ _ Tryz.underlying22 ((Below.cell (p:=⟨b,o+k,none⟩) K.out CX.out.lt).trans CX.out.cell))) ?_;go_frame;refine Rg.la 7 (.int .i64 ((k:Nat):Int)) ?_;go_frame;refine Rg.la 8 (x) ?_;go_frame;go_upto_region 6 with (fail);refine Rg.wl ?_;refine Rg.lm 22 (.slice (some ⟨b2,o2,none⟩) vs.length cap2) ?_;go_frame;refine Rg.lm 23 (.int .i64 ((k:Nat):Int)) ?_;go_frame;refine Rg.lr 24 (exec_indexS slPermss _ _ rfl b2 (o2) (vs.length) cap2 (k) rfl rfl HKL2.out) ?_;go_frame;refine Rg.lr 25 (Rg.exec_load (v:=y) _ _ rfl ⟨b2,o2+k,none⟩ rfl (Rg.run_loadSl _ _ Tryz.underlying22 ((Below.cell (p:=⟨b2,o2+k,none⟩) K.out CY.out.lt).trans CY.out.cell))) ?_;go_frame
     refine Rg.la 9 (y) ?_;go_frame;go_upto_region 7 with (fail);refine Rg.wl ?_;refine Rg.lm 26 (.func (.func F) #[] #[]) ?_;go_frame;refine Rg.lm 27 (x) ?_;go_frame;refine Rg.lm 28 (y) ?_;go_frame;refine Rg.lk 29 (exec_fnv2 F _ _ _ _ rfl rfl rfl rfl (hF _ _)) ?_;refine (HK.out).mono ?_;rintro e1 w11 ⟨rfl,hb⟩;refine ⟨_,rfl,?_⟩;go_frame;replace K:=ι (Rg.acc K.out hb);clear hb;refine Rg.lr 30 (exec_not _ _ true rfl rfl) ?_;go_frame;go_wp2
     go_roundw
     case rel=>exact ⟨k+1,by go_num,HKL.out,HA2,K⟩
     case measure=>simp [intOf]; have:=HKL.out; omega
    | false =>
     rw [hpk] at HK;have HR:=ι (eqAll_no hkl hpk);clear hpk;go_upto_region 5 with (fail);refine Rg.wl ?_;refine Rg.lm 19 (.int .i64 ((k:Nat):Int)) ?_;go_frame;refine Rg.lr 20 (exec_indexS slPermss _ _ rfl b (o) (us.length) cap (k) rfl rfl HKL.out) ?_;go_frame;refine Rg.lr 21 (Rg.exec_load (v:=x) _ _ rfl ⟨b,o+k,none⟩ rfl (Rg.run_loadSl _ _ Tryz.underlying22 ((Below.cell (p:=⟨b,o+k,none⟩) K.out CX.out.lt).trans CX.out.cell))) ?_;go_frame;refine Rg.la 7 (.int .i64 ((k:Nat):Int)) ?_;go_frame;refine Rg.la 8 (x) ?_;go_frame;go_upto_region 6 with (fail);refine Rg.wl ?_;refine Rg.lm 22 (.slice (some ⟨b2,o2,none⟩) vs.length cap2) ?_;go_frame;refine Rg.lm 23 (.int .i64 ((k:Nat):Int)) ?_;go_frame;refine Rg.lr 24 (exec_indexS slPermss _ _ rfl b2 (o2) (vs.length) cap2 (k) rfl rfl HKL2.out) ?_;go_frame;refine Rg.lr 25 (Rg.exec_load (v:=y) _ _ rfl ⟨b2,o2+k,none⟩ rfl (Rg.run_loadSl _ _ Tryz.underlying22 ((Below.cell (p:=⟨b2,o2+k,none⟩) K.out CY.out.lt).trans CY.out.cell))) ?_;go_frame
     refine Rg.la 9 (y) ?_;go_frame;go_upto_region 7 with (fail);refine Rg.wl ?_;refine Rg.lm 26 (.func (.func F) #[] #[]) ?_;go_frame;refine Rg.lm 27 (x) ?_;go_frame;refine Rg.lm 28 (y) ?_;go_frame;refine Rg.lk 29 (exec_fnv2 F _ _ _ _ rfl rfl rfl rfl (hF _ _)) ?_;refine (HK.out).mono ?_;rintro e1 w11 ⟨rfl,hb⟩;refine ⟨_,rfl,?_⟩;go_frame;replace K:=ι (Rg.acc K.out hb);clear hb;refine Rg.lr 30 (exec_not _ _ false rfl rfl) ?_;go_frame;go_wp2;go_ret;exact ⟨by rw [← HNE.out,HR.out]; rfl,K.out⟩
   ·obtain rfl:k=us.length:=by omega
    have hkN:¬ (us.length:Int)<(us.length:Int):=by omega
    have HR:=ι (eqAll_all HA.out);go_wp2;go_ret;exact ⟨by rw [← HNE.out,HR.out]; rfl,K.out⟩
 ·have hneN:¬ (us.length:Int)=(vs.length:Int):=by omega
  have HR:=ι (eqAll_len (p:=p) hne);go_upto_region 1 with (fail);refine Rg.wl ?_;refine Rg.lm 10 (.slice ad us.length cap) ?_;go_frame;refine Rg.lr 11 (exec_len _ _ _ rfl Tryz.underlying52 _ _ _ rfl) ?_;go_frame;refine Rg.lm 12 (.slice ad2 vs.length cap2) ?_;go_frame;refine Rg.lr 13 (exec_len _ _ _ rfl Tryz.underlying52 _ _ _ rfl) ?_;go_frame;refine Rg.lr 14 (exec_bin (R:=.bool true) .neq _ _ _ rfl rfl rfl (b_neqB _ Rg.dT)) ?_;go_frame;go_wp2;go_ret;exact ⟨by rw [HR.out]; rfl,K.out⟩
theorem eqFuncP_any {va vb:Value} {us vs:List Value} {w:World} (h1:Rg.Vals w va us) (h2:Rg.Vals w vb vs) (F:FuncId) (hF:∀ args W,(callFunc F args).run Tryz.prog W=.ok (.enter F args) W) {p:Nat→Bool} (hp:EqAsk F w us vs p) :
  Calls Tryz.prog 188 #[va,vb,.func (.func F) #[] #[]] w fun e w'=>e=.returned (.bool (eqAll us.length vs.length p))∧Below w.heap.size w w':=by
 obtain ⟨ad,cap,rfl,_,_,hlm,hcell⟩:=h1;obtain ⟨ad2,cap2,rfl,_,_,hlm2,hcell2⟩:=h2;unfold Rg.big at hlm hlm2;have Hc:=ι hcell;have Hc2:=ι hcell2;have HP:=ι hp;have K:=ι (Below.refl w.heap.size w);clear hcell hcell2 hp
 go_enter Tryz.func188,Tryz.ntmps188
 by_cases hne:us.length=vs.length
 ·have hneN:(us.length:Int)=(vs.length:Int):=by omega
  have HNE:=ι hne;go_upto_region 1 with (fail);refine Rg.wl ?_;refine Rg.lm 10 (.slice ad us.length cap) ?_;go_frame;refine Rg.lr 11 (exec_len _ _ _ rfl Tryz.underlying22 _ _ _ rfl) ?_;go_frame;refine Rg.lm 12 (.slice ad2 vs.length cap2) ?_;go_frame;refine Rg.lr 13 (exec_len _ _ _ rfl Tryz.underlying22 _ _ _ rfl) ?_;go_frame;refine Rg.lr 14 (exec_bin (R:=.bool false) .neq _ _ _ rfl rfl rfl (b_neqB _ Rg.dF)) ?_;go_frame;have HA:=ι (show (List.range 0).all p=true from rfl);go_wp2
  go_loopw [17] (fun kv wr=>∃ k:Nat,kv=.int .i64 k∧k≤us.length∧Hid ((List.range k).all p=true)∧Hid (Below w.heap.size w wr)) (fun kv _=>us.length - (intOf kv).toNat)
  case atStart=>exact ⟨0,rfl,Nat.zero_le _,HA,K⟩
  case round =>
   clear HA K;obtain ⟨k,rfl,hk,HA,K⟩:=hrel
   by_cases hkl:k<us.length
   ·have hkN:(k:Int)<(us.length:Int):=by omega
    have hkl2:k<vs.length:=by omega
    have HKL:=ι hkl;have HKL2:=ι hkl2;obtain ⟨b,o,rfl,hb,hc⟩:=Hc.out (by omega);obtain ⟨b2,o2,rfl,hb2,hc2⟩:=Hc2.out (by omega);obtain ⟨x,hx⟩:∃ x:Value,Hid (us[k]'hkl=x):=⟨_,ι rfl⟩;obtain ⟨y,hy⟩:∃ y:Value,Hid (vs[k]'hkl2=y):=⟨_,ι rfl⟩;have CX:=ι (CL.mk (show w.cell? ⟨b,o+k,none⟩=some x by rw [← hx.out]; exact hc k hkl) hb);have CY:=ι (CL.mk (show w.cell? ⟨b2,o2+k,none⟩=some y by rw [← hy.out]; exact hc2 k hkl2) hb2);have hask:=HP.out k hkl hkl2 wr K.out;rw [show us[k]=x from hx.out,show vs[k]=y from hy.out] at hask;have HK:=ι hask;clear hc hc2 hask hb hb2
    cases hpk:p k with
    | true =>
     have HPK:=ι hpk;rw [hpk] at HK;have HA2:=ι (rangeAll_next HA.out hpk);clear hpk;go_upto_region 5 with (fail);refine Rg.wl ?_;refine Rg.lm 19 (.int .i64 ((k:Nat):Int)) ?_;go_frame;refine Rg.lr 20 (exec_indexS slPerms _ _ rfl b (o) (us.length) cap (k) rfl rfl HKL.out) ?_;go_frame;refine Rg.lr 21 (Rg.exec_load (v:=x) _ _ rfl ⟨b,o+k,none⟩ rfl (Rg.run_loadSl _ _ Tryz.underlying51 ((Below.cell (p:=⟨b,o+k,none⟩) K.out CX.out.lt).trans CX.out.cell))) ?_;go_frame;refine Rg.la 7 (.int .i64 ((k:Nat):Int)) ?_;go_frame;refine Rg.la 8 (x) ?_;go_frame;go_upto_region 6 with (fail);refine Rg.wl ?_;refine Rg.lm 22 (.slice (some ⟨b2,o2,none⟩) vs.length cap2) ?_;go_frame;refine Rg.lm 23 (.int .i64 ((k:Nat):Int)) ?_;go_frame;refine Rg.lr 24 (exec_indexS slPerms _ _ rfl b2 (o2) (vs.length) cap2 (k) rfl rfl HKL2.out) ?_;go_frame;refine Rg.lr 25 (Rg.exec_load (v:=y) _ _ rfl ⟨b2,o2+k,none⟩ rfl (Rg.run_loadSl _ _ Tryz.underlying51 ((Below.cell (p:=⟨b2,o2+k,none⟩) K.out CY.out.lt).trans CY.out.cell))) ?_;go_frame
     refine Rg.la 9 (y) ?_;go_frame;go_upto_region 7 with (fail);refine Rg.wl ?_;refine Rg.lm 26 (.func (.func F) #[] #[]) ?_;go_frame;refine Rg.lm 27 (x) ?_;go_frame;refine Rg.lm 28 (y) ?_;go_frame;refine Rg.lk 29 (exec_fnv2 F _ _ _ _ rfl rfl rfl rfl (hF _ _)) ?_;refine (HK.out).mono ?_;rintro e1 w11 ⟨rfl,hb⟩;refine ⟨_,rfl,?_⟩;go_frame;replace K:=ι (Rg.acc K.out hb);clear hb;refine Rg.lr 30 (exec_not _ _ true rfl rfl) ?_;go_frame;go_wp2
     go_roundw
     case rel=>exact ⟨k+1,by go_num,HKL.out,HA2,K⟩
     case measure=>simp [intOf]; have:=HKL.out; omega
    | false =>
     rw [hpk] at HK;have HR:=ι (eqAll_no hkl hpk);clear hpk;go_upto_region 5 with (fail);refine Rg.wl ?_;refine Rg.lm 19 (.int .i64 ((k:Nat):Int)) ?_;go_frame;refine Rg.lr 20 (exec_indexS slPerms _ _ rfl b (o) (us.length) cap (k) rfl rfl HKL.out) ?_;go_frame;refine Rg.lr 21 (Rg.exec_load (v:=x) _ _ rfl ⟨b,o+k,none⟩ rfl (Rg.run_loadSl _ _ Tryz.underlying51 ((Below.cell (p:=⟨b,o+k,none⟩) K.out CX.out.lt).trans CX.out.cell))) ?_;go_frame;refine Rg.la 7 (.int .i64 ((k:Nat):Int)) ?_;go_frame;refine Rg.la 8 (x) ?_;go_frame;go_upto_region 6 with (fail);refine Rg.wl ?_;refine Rg.lm 22 (.slice (some ⟨b2,o2,none⟩) vs.length cap2) ?_;go_frame;refine Rg.lm 23 (.int .i64 ((k:Nat):Int)) ?_;go_frame;refine Rg.lr 24 (exec_indexS slPerms _ _ rfl b2 (o2) (vs.length) cap2 (k) rfl rfl HKL2.out) ?_;go_frame;refine Rg.lr 25 (Rg.exec_load (v:=y) _ _ rfl ⟨b2,o2+k,none⟩ rfl (Rg.run_loadSl _ _ Tryz.underlying51 ((Below.cell (p:=⟨b2,o2+k,none⟩) K.out CY.out.lt).trans CY.out.cell))) ?_;go_frame
     refine Rg.la 9 (y) ?_;go_frame;go_upto_region 7 with (fail);refine Rg.wl ?_;refine Rg.lm 26 (.func (.func F) #[] #[]) ?_;go_frame;refine Rg.lm 27 (x) ?_;go_frame;refine Rg.lm 28 (y) ?_;go_frame;refine Rg.lk 29 (exec_fnv2 F _ _ _ _ rfl rfl rfl rfl (hF _ _)) ?_;refine (HK.out).mono ?_;rintro e1 w11 ⟨rfl,hb⟩;refine ⟨_,rfl,?_⟩;go_frame;replace K:=ι (Rg.acc K.out hb);clear hb;refine Rg.lr 30 (exec_not _ _ false rfl rfl) ?_;go_frame;go_wp2;go_ret;exact ⟨by rw [← HNE.out,HR.out]; rfl,K.out⟩
   ·obtain rfl:k=us.length:=by omega
    have hkN:¬ (us.length:Int)<(us.length:Int):=by omega
    have HR:=ι (eqAll_all HA.out);go_wp2;go_ret;exact ⟨by rw [← HNE.out,HR.out]; rfl,K.out⟩
 ·have hneN:¬ (us.length:Int)=(vs.length:Int):=by omega
  have HR:=ι (eqAll_len (p:=p) hne);go_upto_region 1 with (fail);refine Rg.wl ?_;refine Rg.lm 10 (.slice ad us.length cap) ?_;go_frame;refine Rg.lr 11 (exec_len _ _ _ rfl Tryz.underlying22 _ _ _ rfl) ?_;go_frame;refine Rg.lm 12 (.slice ad2 vs.length cap2) ?_;go_frame;refine Rg.lr 13 (exec_len _ _ _ rfl Tryz.underlying22 _ _ _ rfl) ?_;go_frame;refine Rg.lr 14 (exec_bin (R:=.bool true) .neq _ _ _ rfl rfl rfl (b_neqB _ Rg.dT)) ?_;go_frame;go_wp2;go_ret;exact ⟨by rw [HR.out]; rfl,K.out⟩

theorem Wscl0 (args:Array Value) (w:World):(callFunc 190 args).run Tryz.prog w=.ok (.enter 190 args) w:=by kernel_rfl
theorem Wscl1 (args:Array Value) (w:World):(callFunc 188 args).run Tryz.prog w=.ok (.enter 188 args) w:=by kernel_rfl
theorem Wscl2 (args:Array Value) (w:World):(callFunc 140 args).run Tryz.prog w=.ok (.enter 140 args) w:=by kernel_rfl
theorem Wscl3 (args:Array Value) (w:World):(callFunc 186 args).run Tryz.prog w=.ok (.enter 186 args) w:=by kernel_rfl
theorem equalI_any (v1 v2:Value) (l1 l2:List Int) (w:World) (h:Rg.Ints w v1 l1) (h':Rg.Ints w v2 l2)  :
  Calls Tryz.prog 141 #[v1,v2] w fun e w'=>e=.returned (.bool (decide (l1=l2)))∧Below w.heap.size w w':=by
 have hl:l1.length≤1000000000:=by obtain ⟨n,a,c,e,_,e2⟩:=h.len; omega
 obtain ⟨ad,cap,rfl,_,hlm,_,hcell⟩:=h.shape;obtain ⟨ad2,cap2,rfl,_,hlm2,_,hcell2⟩:=h'.shape;have Hc:=ι hcell;have Hc2:=ι hcell2;clear hcell h hcell2 h'
 by_cases hne:l1.length=l2.length
 ·rw [← hne]
  rw [← hne] at hlm2;have HNE:=ι hne;clear hne
  go_enter Tryz.func141,Tryz.ntmps141
  go_wp2
  go_loopw [13] (fun i wr=>∃ k:Nat,k≤l1.length∧i=.int .i64 k∧Hid (l1.take k=l2.take k)∧Hid (Below w.heap.size w wr)) (fun i _=>l1.length - (intOf i).toNat)
  case atStart=>exact ⟨0,by omega,rfl,ι (by simp),ι (Below.refl _ _)⟩
  case round =>
   obtain ⟨k,hk,rfl,hs,hbel⟩:=hrel
   by_cases hlt:k<l1.length
   ·have hlt2:k<l2.length:=by have:=HNE.out; omega
    obtain ⟨b,o,rfl,hb,hc⟩:=Hc.out (by omega);obtain ⟨b2,o2,rfl,hb2,hc2⟩:=Hc2.out (by omega);have c0:=(hbel.out.cell (p:=⟨b,o+k,none⟩) hb).trans (hc k hlt);have c2:=(hbel.out.cell (p:=⟨b2,o2+k,none⟩) hb2).trans (hc2 k hlt2);obtain ⟨x,hx⟩:∃ x,Hid (x=l1[k]):=⟨_,ι rfl⟩;obtain ⟨y,hy⟩:∃ y,Hid (y=l2[k]):=⟨_,ι rfl⟩;rw [← hx.out] at c0;rw [← hy.out] at c2
    have hkl:(k:Int)<(l1.length:Int):=by omega
    clear hc hb hc2 hb2
    by_cases he:x=y
    ·have e1:(x != y)=false:=by simp [he]
     have HE:=ι he;go_upto_region 6 with (fail)
     go_quiet (fail)
     have HB2:=ι (Rg.drewN hbel.out nq);generalize wr.drewN nq=wq at *;go_wp2
     go_roundw
     case rel =>
      refine ⟨k+1,by omega,by go_num,ι ?_,HB2⟩;rw [List.take_succ_eq_append_getElem hlt,List.take_succ_eq_append_getElem hlt2,hs.out,← hx.out,← hy.out,HE.out]
     case measure=>simp [intOf]; omega
    ·have e1:(x != y)=true:=by simp [he]
     have hm:decide (l1=l2)=false:=by
      rw [decide_eq_false_iff_not];intro e;subst e;exact he (hx.out.trans hy.out.symm)
     have HM:=ι hm;clear hm;go_upto_region 6 with (fail)
     go_quiet (fail)
     have HB2:=ι (Rg.drewN hbel.out nq);generalize wr.drewN nq=wq at *;go_wp2;go_ret;exact ⟨by rw [HM.out]; rfl,HB2.out⟩
   ·obtain rfl:k=l1.length:=by omega
    have hm:decide (l1=l2)=true:=by
     rw [decide_eq_true_iff];have:=hs.out
     rwa [List.take_length,HNE.out,List.take_length] at this
    have HM:=ι hm;clear hm;go_wp2;go_ret;exact ⟨by rw [HM.out]; rfl,hbel.out⟩
 ·have hb:((l1.length:Int) != (l2.length:Int))=true:=by rw [bne_iff_ne]; omega
  have hm:decide (l1=l2)=false:=by
   rw [decide_eq_false_iff_not];intro e;subst e;exact hne rfl
  have HM:=ι hm;have HNE:=ι hne;clear hm hne
  go_enter Tryz.func141,Tryz.ntmps141
  go_wp2;go_ret;exact ⟨by rw [HM.out]; rfl,Below.refl _ _⟩
theorem equalP2_any (v1 v2:Value) (l1 l2:List Int) (w:World) (h:Rg.Ints w v1 l1) (h':Rg.Ints w v2 l2)  :
  Calls Tryz.prog 190 #[v1,v2] w fun e w'=>e=.returned (.bool (decide (l1=l2)))∧Below w.heap.size w w':=by
 have hl:l1.length≤1000000000:=by obtain ⟨n,a,c,e,_,e2⟩:=h.len; omega
 obtain ⟨ad,cap,rfl,_,hlm,_,hcell⟩:=h.shape;obtain ⟨ad2,cap2,rfl,_,hlm2,_,hcell2⟩:=h'.shape;have Hc:=ι hcell;have Hc2:=ι hcell2;clear hcell h hcell2 h'
 by_cases hne:l1.length=l2.length
 ·rw [← hne]
  rw [← hne] at hlm2;have HNE:=ι hne;clear hne
  go_enter Tryz.func190,Tryz.ntmps190
  go_wp2
  go_loopw [13] (fun i wr=>∃ k:Nat,k≤l1.length∧i=.int .i64 k∧Hid (l1.take k=l2.take k)∧Hid (Below w.heap.size w wr)) (fun i _=>l1.length - (intOf i).toNat)
  case atStart=>exact ⟨0,by omega,rfl,ι (by simp),ι (Below.refl _ _)⟩
  case round =>
   obtain ⟨k,hk,rfl,hs,hbel⟩:=hrel
   by_cases hlt:k<l1.length
   ·have hlt2:k<l2.length:=by have:=HNE.out; omega
    obtain ⟨b,o,rfl,hb,hc⟩:=Hc.out (by omega);obtain ⟨b2,o2,rfl,hb2,hc2⟩:=Hc2.out (by omega);have c0:=(hbel.out.cell (p:=⟨b,o+k,none⟩) hb).trans (hc k hlt);have c2:=(hbel.out.cell (p:=⟨b2,o2+k,none⟩) hb2).trans (hc2 k hlt2);obtain ⟨x,hx⟩:∃ x,Hid (x=l1[k]):=⟨_,ι rfl⟩;obtain ⟨y,hy⟩:∃ y,Hid (y=l2[k]):=⟨_,ι rfl⟩;rw [← hx.out] at c0;rw [← hy.out] at c2
    have hkl:(k:Int)<(l1.length:Int):=by omega
    clear hc hb hc2 hb2
    by_cases he:x=y
    ·have e1:(x != y)=false:=by simp [he]
     have HE:=ι he;go_upto_region 6 with (fail)
     go_quiet (fail)
     have HB2:=ι (Rg.drewN hbel.out nq);generalize wr.drewN nq=wq at *;go_wp2
     go_roundw
     case rel =>
      refine ⟨k+1,by omega,by go_num,ι ?_,HB2⟩;rw [List.take_succ_eq_append_getElem hlt,List.take_succ_eq_append_getElem hlt2,hs.out,← hx.out,← hy.out,HE.out]
     case measure=>simp [intOf]; omega
    ·have e1:(x != y)=true:=by simp [he]
     have hm:decide (l1=l2)=false:=by
      rw [decide_eq_false_iff_not];intro e;subst e;exact he (hx.out.trans hy.out.symm)
     have HM:=ι hm;clear hm;go_upto_region 6 with (fail)
     go_quiet (fail)
     have HB2:=ι (Rg.drewN hbel.out nq);generalize wr.drewN nq=wq at *;go_wp2;go_ret;exact ⟨by rw [HM.out]; rfl,HB2.out⟩
   ·obtain rfl:k=l1.length:=by omega
    have hm:decide (l1=l2)=true:=by
     rw [decide_eq_true_iff];have:=hs.out
     rwa [List.take_length,HNE.out,List.take_length] at this
    have HM:=ι hm;clear hm;go_wp2;go_ret;exact ⟨by rw [HM.out]; rfl,hbel.out⟩
 ·have hb:((l1.length:Int) != (l2.length:Int))=true:=by rw [bne_iff_ne]; omega
  have hm:decide (l1=l2)=false:=by
   rw [decide_eq_false_iff_not];intro e;subst e;exact hne rfl
  have HM:=ι hm;have HNE:=ι hne;clear hm hne
  go_enter Tryz.func190,Tryz.ntmps190
  go_wp2;go_ret;exact ⟨by rw [HM.out]; rfl,Below.refl _ _⟩
theorem rowsAsk {F:FuncId} {w:World} {va vb:Value} {A B:List (List Int)} (h1:Rg.Rows w va A) (h2:Rg.Rows w vb B)
  (hF:∀ (v1 v2:Value) (l1 l2:List Int) (W:World),Rg.Ints W v1 l1→Rg.Ints W v2 l2→Calls Tryz.prog F #[v1,v2] W fun e w'=>e=.returned (.bool (decide (l1=l2)))∧Below W.heap.size W w') :
  ∃ us vs,Rg.Vals w va us∧Rg.Vals w vb vs∧us.length=A.length∧vs.length=B.length∧EqAsk F w us vs (fun i=>decide (A.getD i []=B.getD i [])):=by
 obtain ⟨us,a1,a2,a3⟩:=h1;obtain ⟨vs,b1,b2,b3⟩:=h2;refine ⟨us,vs,a1,b1,a2,b2,fun i hi hj W hb=>?_⟩
 have e1:A.getD i []=A[i]'(by omega):=by rw [List.getD_eq_getElem?_getD,List.getElem?_eq_getElem (by omega)]; rfl
 have e2:B.getD i []=B[i]'(by omega):=by rw [List.getD_eq_getElem?_getD,List.getElem?_eq_getElem (by omega)]; rfl
 dsimp only
 rw [e1,e2];exact hF _ _ _ _ W ((a3 i hi (by omega)).below hb) ((b3 i hj (by omega)).below hb)
theorem eqRows {A B:List (List Int)}:eqAll A.length B.length (fun i=>decide (A.getD i []=B.getD i []))=decide (A=B) :=
 eqAll_dec fun i h1 h2=>by
  have e1:A.getD i []=A[i]:=by rw [List.getD_eq_getElem?_getD,List.getElem?_eq_getElem h1]; rfl
  have e2:B.getD i []=B[i]:=by rw [List.getD_eq_getElem?_getD,List.getElem?_eq_getElem h2]; rfl
  rw [e1,e2]
theorem rowsAsk2 {F:FuncId} {w:World} {va vb:Value} {A B:List (List (List Int))} (h1:Rows2 w va A) (h2:Rows2 w vb B)
  (hF:∀ (v1 v2:Value) (l1 l2:List (List Int)) (W:World),Rg.Rows W v1 l1→Rg.Rows W v2 l2→Calls Tryz.prog F #[v1,v2] W fun e w'=>e=.returned (.bool (decide (l1=l2)))∧Below W.heap.size W w') :
  ∃ us vs,Rg.Vals w va us∧Rg.Vals w vb vs∧us.length=A.length∧vs.length=B.length∧EqAsk F w us vs (fun i=>decide (A.getD i []=B.getD i [])):=by
 obtain ⟨us,a1,a2,a3⟩:=h1;obtain ⟨vs,b1,b2,b3⟩:=h2;refine ⟨us,vs,a1,b1,a2,b2,fun i hi hj W hb=>?_⟩
 have e1:A.getD i []=A[i]'(by omega):=by rw [List.getD_eq_getElem?_getD,List.getElem?_eq_getElem (by omega)]; rfl
 have e2:B.getD i []=B[i]'(by omega):=by rw [List.getD_eq_getElem?_getD,List.getElem?_eq_getElem (by omega)]; rfl
 dsimp only
 rw [e1,e2];exact hF _ _ _ _ W ((a3 i hi (by omega)).below hb) ((b3 i hj (by omega)).below hb)
theorem eqRows2 {A B:List (List (List Int))}:eqAll A.length B.length (fun i=>decide (A.getD i []=B.getD i []))=decide (A=B) :=
 eqAll_dec fun i h1 h2=>by
  have e1:A.getD i []=A[i]:=by rw [List.getD_eq_getElem?_getD,List.getElem?_eq_getElem h1]; rfl
  have e2:B.getD i []=B[i]:=by rw [List.getD_eq_getElem?_getD,List.getElem?_eq_getElem h2]; rfl
  rw [e1,e2]
theorem clEqI (args:Array Value) (w:World):(callFunc 141 args).run Tryz.prog w=.ok (.enter 141 args) w:=by kernel_rfl
theorem clS1 (args:Array Value) (w:World):(callFunc 187 args).run Tryz.prog w=.ok (.enter 187 args) w:=by kernel_rfl
theorem clS11 (args:Array Value) (w:World):(callFunc 189 args).run Tryz.prog w=.ok (.enter 189 args) w:=by kernel_rfl
theorem same11_any (v1 v2:Value) (l1 l2:List Int) (w:World) (h1:Rg.Ints w v1 l1) (h2:Rg.Ints w v2 l2) :
  Calls Tryz.prog 189 #[v1,v2] w fun e w'=>e=.returned (.bool (decide (l1=l2)))∧Below w.heap.size w w':=by
 have H1:=ι h1;have H2:=ι h2;have K:=ι (Below.refl w.heap.size w);clear h1 h2;obtain ⟨b,hb0⟩:∃ b,Hid (decide (l1=l2)=b):=⟨_,ι rfl⟩
 go_enter Tryz.func189,Tryz.ntmps189
 go_upto_region 1 with (fail);refine Rg.wl ?_;refine Rg.lm 5 (v1) ?_;go_frame;refine Rg.lm 6 (v2) ?_;go_frame;refine Rg.lk 7 (exec_fn 190 _ _ _ rfl rfl rfl (Wscl0 _ _)) ?_;refine (show Calls _ _ _ _ (fun e w'=>e=.returned (.bool b)∧Below w.heap.size w w') by rw [← hb0.out]; exact equalP2_any _ _ _ _ w H1.out H2.out).mono ?_;rintro e1 w1 ⟨rfl,hb⟩;refine ⟨_,rfl,?_⟩;go_frame;replace H1:=ι (H1.out.below hb);replace H2:=ι (H2.out.below hb);replace K:=ι (Rg.acc K.out hb);clear hb;refine Rg.la 4 (.bool b) ?_;go_frame;go_wp2;go_ret;exact ⟨by rw [hb0.out]; rfl,K.out⟩
theorem same1_any (v1 v2:Value) (l1 l2:List (List Int)) (w:World) (h1:Rg.Rows w v1 l1) (h2:Rg.Rows w v2 l2) :
  Calls Tryz.prog 187 #[v1,v2] w fun e w'=>e=.returned (.bool (decide (l1=l2)))∧Below w.heap.size w w':=by
 obtain ⟨us,vs,hu,hv,e1,e2,hask⟩:=rowsAsk h1 h2 (F:=189) same11_any;have HC:=ι (eqFuncP_any hu hv _ clS11 hask);rw [e1,e2,eqRows] at HC;have K:=ι (Below.refl w.heap.size w);clear h1 h2 hu hv e1 e2 hask;obtain ⟨b,hb0⟩:∃ b,Hid (decide (l1=l2)=b):=⟨_,ι rfl⟩;rw [hb0.out] at HC ⊢
 go_enter Tryz.func187,Tryz.ntmps187
 go_upto_region 1 with (fail);refine Rg.wl ?_;refine Rg.lm 5 (v1) ?_;go_frame;refine Rg.lm 6 (v2) ?_;go_frame;refine Rg.lk 7 (exec_fn3 188 _ _ _ _ rfl rfl rfl rfl (Wscl1 _ _)) ?_;refine (HC.out).mono ?_;rintro e1 w1 ⟨rfl,hb⟩;refine ⟨_,rfl,?_⟩;go_frame;replace K:=ι (Rg.acc K.out hb);clear hb;refine Rg.la 4 (.bool b) ?_;go_frame;go_wp2;go_ret;exact ⟨rfl,K.out⟩
theorem sameRowsI_any (v1 v2:Value) (A B:List (List Int)) (w:World) (h1:Rg.Rows w v1 A) (h2:Rg.Rows w v2 B) {b:Bool} (hb:Hid (decide (A=B)=b)) :
  Calls Tryz.prog 140 #[v1,v2,.func (.func 141) #[] #[]] w fun e w'=>e=.returned (.bool b)∧Below w.heap.size w w':=by
 obtain ⟨us,vs,hu,hv,e1,e2,hask⟩:=rowsAsk h1 h2 (F:=141) equalI_any;have HC:=eqFuncI_any hu hv _ clEqI hask;rw [e1,e2,eqRows,hb.out] at HC;exact HC
theorem sameRowsR_any (v1 v2:Value) (A B:List (List (List Int))) (w:World) (h1:Rows2 w v1 A) (h2:Rows2 w v2 B) {b:Bool} (hb:Hid (decide (A=B)=b)) :
  Calls Tryz.prog 186 #[v1,v2,.func (.func 187) #[] #[]] w fun e w'=>e=.returned (.bool b)∧Below w.heap.size w w':=by
 obtain ⟨us,vs,hu,hv,e1,e2,hask⟩:=rowsAsk2 h1 h2 (F:=187) same1_any;have HC:=eqFuncR_any hu hv _ clS1 hask;rw [e1,e2,eqRows2,hb.out] at HC;exact HC
theorem box3 (w:World) (x y z:Value):CL (w.alloc (.cells #[x,y,z] 54)) w.heap.size 0 x∧CL (w.alloc (.cells #[x,y,z] 54)) w.heap.size 1 y∧CL (w.alloc (.cells #[x,y,z] 54)) w.heap.size 2 z :=
 ⟨⟨by rw [Rg.cellNew]; rfl,by simp⟩,⟨by rw [Rg.cellNew]; rfl,by simp⟩,⟨by rw [Rg.cellNew]; rfl,by simp⟩⟩
def ChEqR (w:World) (ov rv:Value) (OO:List (List Int)) (RR:List (List (List Int))):Prop:=Rg.Rows w ov OO∧Rows2 w rv RR
theorem ChEqR.below {w w':World} {ov rv:Value} {OO:List (List Int)} {RR:List (List (List Int))} (h:ChEqR w ov rv OO RR) (hb:Below w.heap.size w w'):ChEqR w' ov rv OO RR:=⟨h.1.below hb,h.2.below hb⟩
theorem chSame_any {n m:Int} {ov rv ov' rv':Value} {OO OO':List (List Int)} {RR RR':List (List (List Int))} {w:World} (h1:ChEqR w ov rv OO RR) (h2:ChEqR w ov' rv' OO' RR') :
  Calls Tryz.prog 116 #[.agg #[.int .i64 n,ov,rv],.agg #[.int .i64 m,ov',rv']] w fun e w'=>e=.returned (.bool (decide (n=m∧OO=OO'∧RR=RR')))∧Below w.heap.size w w':=by
 have H1:=ι h1;have H2:=ι h2;have K:=ι (Below.refl w.heap.size w);clear h1 h2
 go_enter Tryz.func116,Tryz.ntmps116
 go_upto_region 0 with (fail);refine Rg.wl ?_;have hbx:=box3 w (.int .i64 n) ov rv;refine Rg.lr 2 (Rg.exec_box _ _ rfl rfl) ?_;go_frame;have hb:Below w.heap.size w (w.alloc (.cells #[.int .i64 n,ov,rv] 54)):=(Below.refl _ _).alloc (Nat.le_refl _) _;generalize w.alloc (.cells #[.int .i64 n,ov,rv] 54)=w1 at *;replace H1:=ι (H1.out.below hb);replace H2:=ι (H2.out.below hb);replace K:=ι (Rg.acc K.out hb);clear hb;have A0:=ι hbx.1;have A1:=ι hbx.2.1;have A2:=ι hbx.2.2;clear hbx;have hbx:=box3 w1 (.int .i64 m) ov' rv';refine Rg.lr 3 (Rg.exec_box _ _ rfl rfl) ?_;go_frame;have hb:Below w1.heap.size w1 (w1.alloc (.cells #[.int .i64 m,ov',rv'] 54)):=(Below.refl _ _).alloc (Nat.le_refl _) _;generalize w1.alloc (.cells #[.int .i64 m,ov',rv'] 54)=w2 at *;replace H1:=ι (H1.out.below hb);replace H2:=ι (H2.out.below hb);replace A0:=ι (A0.out.below hb);replace A1:=ι (A1.out.below hb)
 replace A2:=ι (A2.out.below hb);replace K:=ι (Rg.acc K.out hb);clear hb;have B0:=ι hbx.1;have B1:=ι hbx.2.1;have B2:=ι hbx.2.2;clear hbx;refine Rg.la 4 (.bool false) ?_;go_frame
 by_cases hnm:n=m
 ·obtain ⟨b1,hb1⟩:∃ b,Hid (decide (OO=OO')=b):=⟨_,ι rfl⟩
  obtain ⟨b2,hb2⟩:∃ b,Hid (decide (RR=RR')=b):=⟨_,ι rfl⟩;have HE:=ι (show decide (n=m∧OO=OO'∧RR=RR')=(b1 && b2) by rw [← hb1.out,← hb2.out]; simp [hnm])
  cases b1 with
  | true =>
   go_upto_region 1 with (fail);refine Rg.wl ?_;refine Rg.lr 5 (exec_field _ rfl rfl (chF0 _ _)) ?_;go_frame;refine Rg.lr 6 (Rg.exec_load (v:=.int .i64 n) _ _ rfl ⟨w.heap.size,0,none⟩ rfl (run_loadInt A0.out.cell)) ?_;go_frame;refine Rg.lr 7 (exec_field _ rfl rfl (chF0 _ _)) ?_;go_frame;refine Rg.lr 8 (Rg.exec_load (v:=.int .i64 m) _ _ rfl ⟨w1.heap.size,0,none⟩ rfl (run_loadInt B0.out.cell)) ?_;go_frame;refine Rg.lr 9 (exec_bin (R:=.bool true) .eql _ _ _ rfl rfl rfl (b_eql _ (decide_eq_true hnm))) ?_;go_frame;refine Rg.lm 10 (.bool true) ?_;go_frame;refine Rg.lW 11 (exec_field _ rfl rfl (chF1 _ _)) ?_;go_frame;refine Rg.lW 12 (Rg.exec_load (v:=ov) _ _ rfl ⟨w.heap.size,1,none⟩ rfl (Rg.run_loadSl _ _ Tryz.underlying27 A1.out.cell)) ?_;go_frame;refine Rg.lW 13 (exec_field _ rfl rfl (chF1 _ _)) ?_;go_frame;refine Rg.lW 14 (Rg.exec_load (v:=ov') _ _ rfl ⟨w1.heap.size,1,none⟩ rfl (Rg.run_loadSl _ _ Tryz.underlying27 B1.out.cell)) ?_;go_frame
   refine listW_ask (some 15) rfl rfl _ _ (exec_fn3 140 _ _ _ _ rfl rfl rfl rfl (Wscl2 _ _)) ?_;refine (sameRowsI_any _ _ _ _ w2 H1.out.1 H2.out.1 hb1).mono ?_;rintro e1 w3 ⟨rfl,hb⟩;refine ⟨_,rfl,?_⟩;go_frame;replace H1:=ι (H1.out.below hb);replace H2:=ι (H2.out.below hb);replace A0:=ι (A0.out.below hb);replace A1:=ι (A1.out.below hb);replace A2:=ι (A2.out.below hb);replace B0:=ι (B0.out.below hb);replace B1:=ι (B1.out.below hb);replace B2:=ι (B2.out.below hb);replace K:=ι (Rg.acc K.out hb);clear hb;refine Rg.lr 16 (exec_pickT (v:=.bool true) _ _ _ rfl rfl rfl) ?_;go_frame;refine Rg.lm 17 (.bool true) ?_;go_frame;refine Rg.lW 18 (exec_field _ rfl rfl (chF2 _ _)) ?_;go_frame;refine Rg.lW 19 (Rg.exec_load (v:=rv) _ _ rfl ⟨w.heap.size,2,none⟩ rfl (Rg.run_loadSl _ _ Tryz.underlying52 A2.out.cell)) ?_;go_frame;refine Rg.lW 20 (exec_field _ rfl rfl (chF2 _ _)) ?_;go_frame
   refine Rg.lW 21 (Rg.exec_load (v:=rv') _ _ rfl ⟨w1.heap.size,2,none⟩ rfl (Rg.run_loadSl _ _ Tryz.underlying52 B2.out.cell)) ?_;go_frame;refine listW_ask (some 22) rfl rfl _ _ (exec_fn3 186 _ _ _ _ rfl rfl rfl rfl (Wscl3 _ _)) ?_;refine (sameRowsR_any _ _ _ _ w3 H1.out.2 H2.out.2 hb2).mono ?_;rintro e1 w4 ⟨rfl,hb⟩;refine ⟨_,rfl,?_⟩;go_frame;replace H1:=ι (H1.out.below hb);replace H2:=ι (H2.out.below hb);replace A0:=ι (A0.out.below hb);replace A1:=ι (A1.out.below hb);replace A2:=ι (A2.out.below hb);replace B0:=ι (B0.out.below hb);replace B1:=ι (B1.out.below hb);replace B2:=ι (B2.out.below hb);replace K:=ι (Rg.acc K.out hb);clear hb;refine Rg.lr 23 (exec_pickT (v:=.bool b2) _ _ _ rfl rfl rfl) ?_;go_frame;refine Rg.la 4 (.bool b2) ?_;go_frame;go_wp2;go_ret;exact ⟨by rw [HE.out]; rfl,K.out⟩
  | false =>
   go_upto_region 1 with (fail);refine Rg.wl ?_;refine Rg.lr 5 (exec_field _ rfl rfl (chF0 _ _)) ?_;go_frame;refine Rg.lr 6 (Rg.exec_load (v:=.int .i64 n) _ _ rfl ⟨w.heap.size,0,none⟩ rfl (run_loadInt A0.out.cell)) ?_;go_frame;refine Rg.lr 7 (exec_field _ rfl rfl (chF0 _ _)) ?_;go_frame;refine Rg.lr 8 (Rg.exec_load (v:=.int .i64 m) _ _ rfl ⟨w1.heap.size,0,none⟩ rfl (run_loadInt B0.out.cell)) ?_;go_frame;refine Rg.lr 9 (exec_bin (R:=.bool true) .eql _ _ _ rfl rfl rfl (b_eql _ (decide_eq_true hnm))) ?_;go_frame;refine Rg.lm 10 (.bool true) ?_;go_frame;refine Rg.lW 11 (exec_field _ rfl rfl (chF1 _ _)) ?_;go_frame;refine Rg.lW 12 (Rg.exec_load (v:=ov) _ _ rfl ⟨w.heap.size,1,none⟩ rfl (Rg.run_loadSl _ _ Tryz.underlying27 A1.out.cell)) ?_;go_frame;refine Rg.lW 13 (exec_field _ rfl rfl (chF1 _ _)) ?_;go_frame;refine Rg.lW 14 (Rg.exec_load (v:=ov') _ _ rfl ⟨w1.heap.size,1,none⟩ rfl (Rg.run_loadSl _ _ Tryz.underlying27 B1.out.cell)) ?_;go_frame
   refine listW_ask (some 15) rfl rfl _ _ (exec_fn3 140 _ _ _ _ rfl rfl rfl rfl (Wscl2 _ _)) ?_;refine (sameRowsI_any _ _ _ _ w2 H1.out.1 H2.out.1 hb1).mono ?_;rintro e1 w3 ⟨rfl,hb⟩;refine ⟨_,rfl,?_⟩;go_frame;replace H1:=ι (H1.out.below hb);replace H2:=ι (H2.out.below hb);replace A0:=ι (A0.out.below hb);replace A1:=ι (A1.out.below hb);replace A2:=ι (A2.out.below hb);replace B0:=ι (B0.out.below hb);replace B1:=ι (B1.out.below hb);replace B2:=ι (B2.out.below hb);replace K:=ι (Rg.acc K.out hb);clear hb;refine Rg.lr 16 (exec_pickT (v:=.bool false) _ _ _ rfl rfl rfl) ?_;go_frame;refine Rg.lm 17 (.bool false) ?_;go_frame;refine listW_pass (some 18) (by kernel_rfl) rfl ?_;go_frame;refine listW_pass (some 19) (by kernel_rfl) rfl ?_;go_frame;refine listW_pass (some 20) (by kernel_rfl) rfl ?_;go_frame;refine listW_pass (some 21) (by kernel_rfl) rfl ?_;go_frame;refine listW_pass (some 22) (by kernel_rfl) rfl ?_;go_frame
   refine Rg.lr 23 (exec_pickF (v:=.bool false) _ _ _ rfl rfl rfl) ?_;go_frame;refine Rg.la 4 (.bool false) ?_;go_frame;go_wp2;go_ret;exact ⟨by rw [HE.out]; rfl,K.out⟩
 ·have HE:=ι (show decide (n=m∧OO=OO'∧RR=RR')=false by simp [hnm])
  go_upto_region 1 with (fail);refine Rg.wl ?_;refine Rg.lr 5 (exec_field _ rfl rfl (chF0 _ _)) ?_;go_frame;refine Rg.lr 6 (Rg.exec_load (v:=.int .i64 n) _ _ rfl ⟨w.heap.size,0,none⟩ rfl (run_loadInt A0.out.cell)) ?_;go_frame;refine Rg.lr 7 (exec_field _ rfl rfl (chF0 _ _)) ?_;go_frame;refine Rg.lr 8 (Rg.exec_load (v:=.int .i64 m) _ _ rfl ⟨w1.heap.size,0,none⟩ rfl (run_loadInt B0.out.cell)) ?_;go_frame;refine Rg.lr 9 (exec_bin (R:=.bool false) .eql _ _ _ rfl rfl rfl (b_eql _ (decide_eq_false hnm))) ?_;go_frame;refine Rg.lm 10 (.bool false) ?_;go_frame;refine listW_pass (some 11) (by kernel_rfl) rfl ?_;go_frame;refine listW_pass (some 12) (by kernel_rfl) rfl ?_;go_frame;refine listW_pass (some 13) (by kernel_rfl) rfl ?_;go_frame;refine listW_pass (some 14) (by kernel_rfl) rfl ?_;go_frame;refine listW_pass (some 15) (by kernel_rfl) rfl ?_;go_frame;refine Rg.lr 16 (exec_pickF (v:=.bool false) _ _ _ rfl rfl rfl) ?_;go_frame
  refine Rg.lm 17 (.bool false) ?_;go_frame;refine listW_pass (some 18) (by kernel_rfl) rfl ?_;go_frame;refine listW_pass (some 19) (by kernel_rfl) rfl ?_;go_frame;refine listW_pass (some 20) (by kernel_rfl) rfl ?_;go_frame;refine listW_pass (some 21) (by kernel_rfl) rfl ?_;go_frame;refine listW_pass (some 22) (by kernel_rfl) rfl ?_;go_frame;refine Rg.lr 23 (exec_pickF (v:=.bool false) _ _ _ rfl rfl rfl) ?_;go_frame;refine Rg.la 4 (.bool false) ?_;go_frame;go_wp2;go_ret;exact ⟨by rw [HE.out]; rfl,K.out⟩
end Go.Proofs.YthehbckogieimaaGreat

namespace Go.Proofs.Rg
open Go Go.RowKit
theorem in_run {l n:Nat} {P:Program} {ops:Array Oper} {rest:List Oper} {o:Oper} {a:Act} {w w':World} {Q:Exit→Act→World→Prop} {v:Value} (d:Option Tmp) (hg:o.guard=none) (hd:o.dst=d) (hnd:∀ c,o.op≠.defer c)
  (hr:(execOp a.eval o).run P w=.ok (.value v) w') (h:wpListIn (Fence.wide.inRound l) n P ops Q rest (a.put d v) w'):wpListIn (Fence.wide.inRound l) n P ops Q (o :: rest) a w:=by
 subst hd;refine wpListIn_plain hg fun K hK=>⟨fun _ _=>trivial,?_⟩;rw [Oper.semAt_eq _ _ _ hnd,hr];exact hK _ _ h
theorem in_skip {l n:Nat} {P:Program} {ops:Array Oper} {rest:List Oper} {o:Oper} {a:Act} {w w':World} {Q:Exit→Act→World→Prop} (d:Option Tmp) (hg:o.guard=none) (hd:o.dst=d) (hnd:∀ c,o.op≠.defer c)
  (hr:(execOp a.eval o).run P w=.ok .skip w') (h:wpListIn (Fence.wide.inRound l) n P ops Q rest (a.put d undef) w'):wpListIn (Fence.wide.inRound l) n P ops Q (o :: rest) a w:=by
 subst hd;refine wpListIn_plain hg fun K hK=>⟨fun _ _=>trivial,?_⟩;rw [Oper.semAt_eq _ _ _ hnd,hr];exact hK _ _ h
theorem inW_run {l n:Nat} {P:Program} {ops:Array Oper} {rest:List Oper} {o:Oper} {a:Act} {w w':World} {Q:Exit→Act→World→Prop} {v:Value} (d:Option Tmp) (hw:Region.wanted o (yielded ops a.tmps)=true) (hd:o.dst=d) (hnd:∀ c,o.op≠.defer c)
  (hr:(execOp a.eval o).run P w=.ok (.value v) w') (h:wpListIn (Fence.wide.inRound l) n P ops Q rest (a.put d v) w'):wpListIn (Fence.wide.inRound l) n P ops Q (o :: rest) a w:=by
 subst hd;refine wpListIn_step fun K hK=>?_;rw [if_pos hw];refine ⟨fun _ _=>trivial,?_⟩;rw [Oper.semAt_eq _ _ _ hnd,hr];exact hK _ _ h
theorem inW_ask {l n:Nat} {P:Program} {ops:Array Oper} {rest:List Oper} {o:Oper} {a:Act} {w:World} {Q:Exit→Act→World→Prop} (d:Option Tmp) (hw:Region.wanted o (yielded ops a.tmps)=true) (hd:o.dst=d) (hnd:∀ c,o.op≠.defer c) (f:FuncId) (args:Array Value)
  (hr:(execOp a.eval o).run P w=.ok (.enter f args) w) (h:Calls P f args w fun e w'=>∃ v,e=.returned v∧wpListIn (Fence.wide.inRound l) n P ops Q rest (a.put d v) w'):wpListIn (Fence.wide.inRound l) n P ops Q (o :: rest) a w:=by
 subst hd;refine wpListIn_step fun K hK=>?_;rw [if_pos hw];refine ⟨fun _ _=>trivial,?_⟩;rw [Oper.semAt_eq _ _ _ hnd,hr];refine ⟨(fun hh=>by cases hh),(CallsIn.inRound l (callsIn_wide.2 h)).mono ?_⟩;rintro e w' ⟨v,rfl,hv⟩;exact hK _ _ hv
theorem inW_pass {l n:Nat} {P:Program} {ops:Array Oper} {rest:List Oper} {o:Oper} {a:Act} {w:World} {Q:Exit→Act→World→Prop} (d:Option Tmp) (hw:Region.wanted o (yielded ops a.tmps)=false) (hd:o.dst=d)
  (h:wpListIn (Fence.wide.inRound l) n P ops Q rest (a.put d undef) w):wpListIn (Fence.wide.inRound l) n P ops Q (o :: rest) a w:=by
 subst hd;unfold wpListIn;rw [if_neg (by rw [hw]; decide)];exact ⟨fun _ _=>trivial,h⟩
def onlyN (Q:Exit→Act→World→Prop):Exit→Act→World→Prop
 | .normal,a,w=>Q .normal a w
 | _,_,_=>False
theorem wp_onlyN {P:Program} {c:Code} {Q:Exit→Act→World→Prop} {a:Act} {w:World} (h:c.wp P (onlyN Q) a w):c.wp P Q a w :=
 wp_mono h fun e a w hq=>by cases e <;> first | exact hq | exact hq.elim
theorem onlyN_i {Q:Exit→Act→World→Prop} {a:Act} {w:World} (h:Q .normal a w):onlyN Q .normal a w:=h
end Go.Proofs.Rg

namespace Go.Proofs.YthehbckogieimaaGreat
open Go.RowKit
open Go.Proofs
open Go.Shelf
attribute [local go_sem] Oper.semAt_some
def finTo (m k:Nat):List (Fin m):=(List.finRange m).take k
theorem finTo_succ {m k:Nat} (h:k<m):finTo m (k+1)=finTo m k++[⟨k,h⟩]:=by
 unfold finTo;rw [List.take_succ_eq_append_getElem (by rw [List.length_finRange]; exact h)];simp
theorem finTo_len {m k:Nat} (h:k≤m):(finTo m k).length=k:=by
 unfold finTo;rw [List.length_take,List.length_finRange];omega
theorem finTo_all (m:Nat):finTo m m=List.finRange m:=by
 unfold finTo;rw [List.take_of_length_le (by rw [List.length_finRange]; exact Nat.le_refl _)]
theorem reps1_in (F:Fence) (n:Nat) (h7:F.fn 185) (hro:F.round=none) (hn:1≤n) (l Bs n₀ m cap:Nat) (ad:Option Addr) (RV:Nat→Value) (hm:m≤1000000000) (had:0<m→∃ b off,ad=some ⟨b,off,none⟩∧b<n₀) (J Jx:List (Fin m)→World→Prop)
  (hY:∀ pre x W,J pre W→pre.length<m→YieldAt F (n - 1) Tryz.prog l #[.int .i64 ((x.1:Nat):Int),RV x.1] W fun e W' =>
   (e=.returned (.bool true)∧J (pre++[x]) W'∧Below n₀ W W')∨(e=.returned (.bool false)∧Jx (pre++[x]) W'))
  (W:World) (hBs:W.cell? ⟨Bs,2,none⟩=some (.slice ad m cap)) (hc:∀ b off,ad=some ⟨b,off,none⟩→∀ j,j<m→W.cell? ⟨b,off+j,none⟩=some (RV j)) (h0:J [] W) :
  CallsIn F n Tryz.prog 185 #[.func (.yield l) #[] #[],.pointer (some ⟨Bs,0,none⟩)] W fun e W'=>(∃ v,e=.returned v) ∧
   ((∃ ys,ys=finTo m m∧J ys W')∨(∃ pre,(∃ k,k≤m∧pre=finTo m k)∧Jx pre W')):=by
 refine callsIn_of_wp Tryz.func185 rfl h7 ?_ hro;simp only [Tryz.ntmps185,List.size_toArray,List.length_cons,List.length_nil,Nat.reduceAdd,Nat.reduceSub,Array.replicate_succ,Array.replicate_zero,List.push_toArray,List.append_toArray,List.nil_append,List.cons_append]
 gi_wp2
 gi_loopw [8] (fun i wr=>∃ k:Nat,k≤m∧i=.int .i64 k∧J (finTo m k) wr∧Below n₀ W wr)
  (fun i _=>m - (intOf i).toNat)
 case atStart=>exact ⟨0,Nat.zero_le _,rfl,h0,Below.refl _ _⟩
 case round =>
  obtain ⟨k,hk,rfl,hJs,hnx⟩:=hrel
  by_cases hlt:k<m
  ·obtain ⟨b,off,rfl,hb⟩:=had (by omega)
   have hcx:wr.cell? ⟨b,off+k,none⟩=some (RV k):=(hnx.cell (p:=⟨b,off+k,none⟩) hb).trans (hc b off rfl k hlt);obtain ⟨fn,tmps,assign,body,hy,hR⟩:=hY _ ⟨k,hlt⟩ wr hJs (by rw [finTo_len hk]; exact hlt)
   dsimp only at hy
   gi_wp2
   refine hR.mono ?_
   rintro e W3 (⟨rfl,hJ3,hk3⟩ | ⟨rfl,hJx3⟩)
   ·gi_wp2
    go_roundw
    case rel=>exact ⟨k+1,by omega,by simp,by rw [finTo_succ hlt]; exact hJ3,hnx.trans hk3⟩
    case measure=>simp [intOf]; omega
   ·gi_wp2
    refine bodyPost_ret (results_none rfl _ _ _) rfl ?_;exact ⟨⟨_,rfl⟩,.inr ⟨_,⟨k+1,by omega,(finTo_succ hlt).symm⟩,hJx3⟩⟩
  ·obtain rfl:k=m:=by omega
   gi_wp2
   go_end0
   exact ⟨⟨_,rfl⟩,.inl ⟨_,rfl,hJs⟩⟩
end Go.Proofs.YthehbckogieimaaGreat

namespace Go.Proofs.RF
open Go Go.RowKit
def Dfr (D:Nat) (W:World):Prop:=W.heap[D]?=some (.deferred (some []))
theorem Dfr.size {D:Nat} {W:World} (h:Dfr D W):D<W.heap.size:=(Array.getElem?_eq_some_iff.1 h).1
theorem Dfr.of_below' {D:Nat} {W W':World} (h:Dfr D W) (hb:Below W.heap.size W W'):Dfr D W':=(hb.block D h.size).trans h
theorem Dfr.alloc {D:Nat} {W:World} (h:Dfr D W) (o:Obj):Dfr D (W.alloc o):=(Below.heap_alloc W o D h.size).trans h
theorem Dfr.drew {D:Nat} {W:World} (h:Dfr D W):Dfr D W.drew:=h
theorem Dfr.setCell {D:Nat} {W:World} (h:Dfr D W) (a:Addr) (v:Value):Dfr D (W.setCell a v) :=
 (KeepsOthers.setCell W a v).same D _ h rfl
theorem Dfr.cell {D:Nat} {o:Option (List Deferred)} {W:World} (h:Dfr D W) (a:Addr):(W.putObj D (.deferred o)).cell? a=W.cell? a:=by
 unfold World.cell?
 by_cases e:a.block=D
 ·rw [e,World.putObj_heap_same h.size,show W.heap[D]?=_ from h]
 ·rw [World.putObj_heap_other e]
theorem Dfr.frozen {D:Nat} {o:Option (List Deferred)} {W:World} (h:Dfr D W) (a:Addr):(W.putObj D (.deferred o)).frozen? a=W.frozen? a:=by
 unfold World.frozen?
 by_cases e:a.block=D
 ·rw [e,World.putObj_heap_same h.size,show W.heap[D]?=_ from h]
 ·rw [World.putObj_heap_other e]
def mark (D:Nat):Deferred:={ target:=.collected D,args:=#[] }
theorem leaves {n:Nat} {P:Program} {fn:Func} {tmps:Array Value} {R:Ending→World→Prop} (B:Nat):∀ (ds:List Nat) (W:World),ds.Nodup→(∀ D,D∈ds→Dfr D W∧B≤D) →
  (∀ W',Below B W W'→(∀ a,W'.cell? a=W.cell? a)→(∀ a,W'.frozen? a=W.frozen? a)→∃ v,(results fn tmps).run P W'=.ok v W'∧R (.returned v) W') →
  LeavesInM Fence.wide n P fn tmps R (ds.map mark) .returning W
 | [],W,_,_,h=>h W (Below.refl _ _) (fun _=>rfl) (fun _=>rfl)
 | D :: ds,W,hn,hD,h=>by
  rw [List.nodup_cons] at hn;obtain ⟨hd,hB⟩:=hD D (by simp);have hb:Below B W (W.putObj D (.deferred none)):=⟨rfl,rfl,rfl,by simp,fun k hk=>World.putObj_heap_other (by omega)⟩;refine ⟨by simp,.inl ⟨D,_,rfl,run_takeDeferred hd,leaves B ds _ hn.2 (fun D' hD'=>?_) (fun W' h1 h2 h3=>?_)⟩⟩
  ·refine ⟨(World.putObj_heap_other ?_).trans (hD D' (by simp [hD'])).1,(hD D' (by simp [hD'])).2⟩
   intro e; exact hn.1 (e▸hD')
  ·exact h W' (hb.trans h1) (fun a=>(h2 a).trans (hd.cell a)) (fun a=>(h3 a).trans (hd.frozen a))
theorem calls_marks {P:Program} {f:FuncId} {fn:Func} {c:Code} {args:Array Value} {w:World} {R:Ending→World→Prop}
  (hf:P.funcs[f]?=some fn) (hb:fn.body=some c)
  (h:c.wp P (bodyPostM Fence.wide 0 P fn R) { tmps:=args++Array.replicate (fn.ntmps - args.size) undef,defers:=[] } w):Calls P f args w R :=
 callsIn_wide.1 (callsIn_of_wp_marks (n:=0) hf hb trivial (wpIn_wide.2 h))
end Go.Proofs.RF
namespace Go.Proofs.YthehbckogieimaaGreat
open Go.RowKit
open Go.Proofs
open Go.Shelf
attribute [local irreducible] Go.Calls Go.wpList
structure KK (B n₀:Nat) (W W':World):Prop where
 keeps:KeepsFrom B W W'
 bel:Below n₀ W W'
 le:n₀≤W.heap.size
theorem KK.refl {B n₀:Nat} {W:World} (h:n₀≤W.heap.size):KK B n₀ W W:=⟨KeepsFrom.refl _ _,Below.refl _ _,h⟩
theorem KK.acc {B n₀:Nat} {W W' W'':World} (h:KK B n₀ W W') (hb:Below W'.heap.size W' W''):KK B n₀ W W'' :=
 ⟨h.keeps.trans ⟨hb.size,fun k o _ hk _=>(hb.block k (Array.getElem?_eq_some_iff.1 hk).1).trans hk⟩,h.bel.trans (hb.mono (Nat.le_trans h.le h.bel.size)),h.le⟩
theorem KK.set {B n₀:Nat} {W W':World} (h:KK B n₀ W W') {b o:Nat} (v:Value) (hb:n₀≤b):KK B n₀ W (W'.setCell ⟨b,o,none⟩ v) :=
 ⟨h.keeps.trans ((KeepsOthers.setCell _ _ _).from _),h.bel.setCell (p:=⟨b,o,none⟩) hb v,h.le⟩
theorem KK.grown {B n₀:Nat} {W W' W'':World} (h:KK B n₀ W W') {e:TypeId} {v:Value} {n size:Nat} {xs:List Value} (hr:W'.ownsRow n₀ e size v n xs) (hg:W'.grownBy W'' v.ownBlock):KK B n₀ W W'' :=
 ⟨h.keeps.trans ((KeepsOthers.of_grownBy hg (fun j o e1 e2=>by
  obtain ⟨_,h2⟩:=hr
  rcases h2 with ⟨h3,_⟩ | ⟨g,cap,cur,h3,hg0,hc,_⟩
  ·rw [h3] at e1; simp [Value.ownBlock] at e1
  ·rw [h3] at e1
   simp [Value.ownBlock] at e1;subst e1;rw [hc] at e2
   cases e2; rfl)).from _),h.bel.grown hg (Nat.le_trans h.le h.bel.size) (fun j hj=>(hr.lt j hj).1),h.le⟩
theorem reps_any (n:Int) (ov rv:Value) (w:World) :
  Calls Tryz.prog 114 #[.agg #[.int .i64 n,ov,rv]] w fun e w'=>∃ fb,e=.returned (.func (.func 185) #[] #[.pointer (some ⟨fb,0,none⟩)])∧CL w' fb 2 rv∧Below w.heap.size w w':=by
 go_enter Tryz.func114,Tryz.ntmps114
 have hbx:=box3 w (.int .i64 n) ov rv;go_upto_region 0 with (fail);refine Rg.wl ?_;refine Rg.lr 1 (Rg.exec_box _ _ rfl rfl) ?_;go_frame;have hb:Below w.heap.size w (w.alloc (.cells #[.int .i64 n,ov,rv] 54)):=(Below.refl _ _).alloc (Nat.le_refl _) _;generalize w.alloc (.cells #[.int .i64 n,ov,rv] 54)=w1 at *;have H:=ι hbx.2.2;have K:=ι hb;clear hbx hb;go_wp2;go_ret;exact ⟨_,rfl,H.out,K.out⟩
structure RV3 (n₀:Nat) (w:World) (ad:Option Addr) (m:Nat) (RV:Nat→Value):Prop where
 le:m≤1000000000
 had:0<m→∃ b off,ad=some ⟨b,off,none⟩∧b<n₀
 cells:∀ b off,ad=some ⟨b,off,none⟩→∀ j,j<m→w.cell? ⟨b,off+j,none⟩=some (RV j)
 sz:n₀≤w.heap.size
theorem RV3.below {n₀:Nat} {w w':World} {ad:Option Addr} {m:Nat} {RV:Nat→Value} (h:RV3 n₀ w ad m RV) (hb:Below n₀ w w'):RV3 n₀ w' ad m RV :=
 ⟨h.le,h.had,fun b off e j hj=>by
  obtain ⟨b',off',e',hlt⟩:=h.had (by omega);rw [e] at e';simp only [Option.some.injEq,Addr.mk.injEq,and_true] at e';obtain ⟨rfl,rfl⟩:=e'
  exact (hb.cell (p:=⟨b,off+j,none⟩) hlt).trans (h.cells b off e j hj),Nat.le_trans h.sz hb.size⟩
theorem reps_stops {w:World} {n₀ m cap fb:Nat} {ad:Option Addr} {RV:Nat→Value} (h:RV3 n₀ w ad m RV) (hfb:CL w fb 2 (.slice ad m cap)) (n:Nat) (hn:1≤n) :
  SeqStopsK Fence.wide n Tryz.prog 185 #[.pointer (some ⟨fb,0,none⟩)] (fun x:Fin m=>#[Value.int .i64 ((x.1:Nat):Int),RV x.1]) (Below n₀) (fun ys=>ys=finTo m m) (fun pre=>∃ k,k≤m∧pre=finTo m k) m w:=fun l J Jx W hW _ _ hY h0=>by
 have h':=h.below (hW.mono h.sz);exact reps1_in Fence.wide n trivial rfl hn l fb n₀ m cap ad RV h.le h.had J Jx hY W ((hW.cell (p:=⟨fb,2,none⟩) hfb.lt).trans hfb.cell) h'.cells h0
theorem range_reps {g:Operand} {ps:Array Go.Tmp} {assign body:Code} {Q:Exit→Act→World→Prop} {a:Act} {w:World} {n₀ m cap fb:Nat} {ad:Option Addr} {RV:Nat→Value}
  (hg:a.eval g=.func (.func 185) #[] #[.pointer (some ⟨fb,0,none⟩)]) (hfb:CL w fb 2 (.slice ad m cap)) (h:RV3 n₀ w ad m RV) (hps:ps.size=2)
  (I:List (Fin m)→World→Prop) (Ix:Code→List (Fin m)→World→Prop) (hI:OwnFrom w.heap.size I) (hIx:∀ c,OwnFrom w.heap.size (Ix c)) (h0:I [] w) (a₁:Fin m→Act)
  (hassign:∀ (l:Nat) (x:Fin m) (W:World) (K:Act→World→Prop),K (a₁ x) W→assign.wpIn (Fence.wide.inRound l) 1 Tryz.prog (Exit.then K (fun _ _ _=>False)) { tmps:=(ps.zip #[Value.int .i64 ((x.1:Nat):Int),RV x.1]).foldl (fun t (p,v)=>t.setIfInBounds p v) a.tmps,defers:=[] } W)
  (hbody:∀ (l:Nat) (pre:List (Fin m)) (x:Fin m) (W:World),I pre W→pre.length<m→body.wpIn (Fence.wide.inRound l) 1 Tryz.prog (ownPostG w.heap.size (Below n₀) I Ix (pre++[x]) W) (a₁ x) W)
  (hdone:∀ (D:Nat) (W:World),w.heap.size≤D→I (finTo m m) W→RF.Dfr D W→Q .normal { a with defers:=RF.mark D :: a.defers } W)
  (hstop:∀ (D:Nat) (c:Code) (pre:List (Fin m)) (W:World),w.heap.size≤D→Ix c pre W→RF.Dfr D W→c.wp Tryz.prog Q { a with defers:=RF.mark D :: a.defers } W) :
  (Code.rangeFunc g ps assign body).wp Tryz.prog Q a w :=
 wpIn_wide.1 (wpIn_rangeFunc_ownG (F:=Fence.wide) (n:=3) rfl (by decide) (gf:=185) (lb:=#[.pointer (some ⟨fb,0,none⟩)]) hg trivial (enters_of Tryz.func185 (by kernel_rfl) rfl)
  (reps_stops h hfb 2 (by decide)) belowK_t (belowK_b h.sz) (Below.refl _ _) (fun _=>hps.symm) I Ix hI hIx h0 a₁ hassign hbody
  (fun D xs W hD hx hi hd=>by subst hx; exact hdone D W hD hi hd) (fun D c pre W hD _ hi hd=>wpIn_wide.2 (hstop D c pre W hD hi hd)))
end Go.Proofs.YthehbckogieimaaGreat

namespace Go.Proofs.YthehbckogieimaaGreat
open Go.Proofs
open Go.Proofs.Cm (Gr Gd IsChain IsG St)
theorem asc_len {l:List Nat} {a b:Nat} (h:l.Pairwise (· < ·)) (hr:∀ x∈l,a≤x∧x<b):l.length≤b - a:=by
 have h1:l.Nodup:=h.imp (fun {x y} hlt e=>by omega)
 have h2:=nodup_le (m:=List.range' a (b - a)) h1 (fun x hx=>by
  have:=hr x hx;rw [List.mem_range'_1]
  omega)
 rwa [List.length_range'] at h2
theorem getD_inf {α:Type} {l:List (List α)} {i:Nat} (h:i<l.length):l.getD i []=l[i]:=by rw [List.getD_eq_getElem?_getD,List.getElem?_eq_getElem h]; rfl
theorem chain_mem {n:Nat} {H:List Nat→Prop} {O:List (List Nat)} {R:List (List (List Nat))} (h:IsChain n H O R) {r:List Nat} (hr:r∈R.flatten):∃ i k,i<n∧k<(O.getD i []).length∧r=(R.getD i []).getD k []:=by
 obtain ⟨l,hl,hr⟩:=List.mem_flatten.1 hr;obtain ⟨i,hi,rfl⟩:=List.getElem_of_mem hl;obtain ⟨k,hk,rfl⟩:=List.getElem_of_mem hr
 have hin:i<n:=by rw [← h.lenR]; exact hi
 have e1:=h.len i hin;rw [getD_inf hi] at e1;exact ⟨i,k,hin,by omega,by rw [getD_inf hi]; exact (getD_li' hk).symm⟩
where
 getD_li' {l:List (List Nat)} {k:Nat} (h:k<l.length):l.getD k []=l[k]:=by rw [List.getD_eq_getElem?_getD,List.getElem?_eq_getElem h]; rfl
theorem chain_H {n:Nat} {H:List Nat→Prop} {O:List (List Nat)} {R:List (List (List Nat))} (h:IsChain n H O R) {r:List Nat} (hr:r∈R.flatten):H r:=by
 obtain ⟨i,k,hi,hk,rfl⟩:=chain_mem h hr;exact (h.rep i k hi hk).1.1.1
theorem chain_gen {n:Nat} {H:List Nat→Prop} (hH:IsG n H) {O:List (List Nat)} {R:List (List (List Nat))} (h:IsChain n H O R) (x:List Nat):H x↔Gr n (·∈R.flatten) x:=by
 have hgs:∀ s,s∈R.flatten→Gd n s:=fun s hs=>hH.gd s (chain_H h hs)
 constructor
 ·intro hx
  have key:∀ d i x,i+d=n→St H i x→Gr n (·∈R.flatten) x:=by
   intro d
   induction d with
   | zero =>
    intro i x hi hx
    obtain rfl:i=n:=by omega
    rw [Cm.Fx.all (hH.gd x hx.1) hx.2];exact .one
   | succ d ih =>
    intro i x hi hx
    have hin:i<n:=by omega
    have gx:=hH.gd x hx.1;have hp:=(h.orb i (Cm.ap x i) hin).2 ⟨x,hx,rfl⟩;obtain ⟨k,hk,e⟩:=List.getElem_of_mem hp;have hl:=(h.rep i k hin hk).1
    have e2:(O.getD i []).getD k 0=Cm.ap x i:=by rw [List.getD_eq_getElem?_getD,List.getElem?_eq_getElem hk]; exact e
    rw [e2] at hl;have e3:=h.len i hin
    have hrm:(R.getD i []).getD k []∈R.flatten:=by
     have hiR:i<R.length:=by rw [h.lenR]; exact hin
     rw [getD_inf hiR];rw [getD_inf hiR] at e3;rw [List.getD_eq_getElem?_getD,List.getElem?_eq_getElem (by omega)];exact List.mem_flatten.2 ⟨_,List.getElem_mem hiR,List.getElem_mem _⟩
    generalize (R.getD i []).getD k []=r at *;have gr:=hgs r hrm
    have hst:St H (i+1) (Ma.mulN x (Ma.invN r)):=by
     refine ⟨hH.mul _ _ hx.1 (hH.inv _ hl.1.1),fun j hj=>?_⟩;rw [Cm.ap_mul gx (by omega)]
     by_cases ej:j=i
     ·subst ej
      rw [← hl.2];exact Cm.ap_inv gr hin
     ·rw [hx.2 j (by omega)]
      exact Cm.Fx.inv gr (Nat.le_of_lt hin) hl.1.2 j (by omega)
    have h1:=ih (i+1) _ (by omega) hst;have h2:=Gr.mul _ _ h1 (.gen r hrm)
    rwa [Cm.mul_inv_cancel gx gr] at h2
  exact key n 0 x (by omega) ⟨hx,fun j hj=>absurd hj (Nat.not_lt_zero _)⟩
 ·intro hx
  exact Gr.sub hH (fun s hs=>chain_H h hs) hx
theorem chain_len {n:Nat} {H:List Nat→Prop} (hH:IsG n H) {O:List (List Nat)} {R:List (List (List Nat))} (h:IsChain n H O R) {i:Nat} (hi:i<n):(O.getD i []).length≤n - i:=by
 refine asc_len (h.asc i hi) fun p hp=>?_;obtain ⟨x,hx,rfl⟩:=(h.orb i p hi).1 hp;have gx:=hH.gd x hx.1;refine ⟨Nat.le_of_not_lt fun hlt=>?_,Cm.ap_lt gx hi⟩;have e:=hx.2 _ hlt;have:=Cm.ap_inj gx (Nat.lt_trans hlt hi) hi e;omega
def ChOK (n:Int) (OO:List (List Int)) (RR:List (List (List Int))):Prop:=∃ (N:Nat) (O:List (List Nat)) (R:List (List (List Nat))),n=((N:Nat):Int)∧1≤N∧N≤64∧OO=O.map Ma.ofN∧RR=R.map (List.map Ma.ofN)∧IsChain N (Gr N (·∈R.flatten)) O R∧∀ s∈R.flatten,Gd N s
def ChC (n:Int) (OO:List (List Int)) (RR:List (List (List Int))) (c:Int):Prop:=(¬ (1≤n∧n≤64)∧c=2)∨((1≤n∧n≤64)∧((ChOK n OO RR∧c=0)∨(¬ ChOK n OO RR∧c=3)))
theorem ChC.uniq {n:Int} {OO:List (List Int)} {RR:List (List (List Int))} {c c':Int} (h:ChC n OO RR c) (h':ChC n OO RR c'):c=c':=by
 rcases h with ⟨a,rfl⟩ | ⟨a,⟨b,rfl⟩ | ⟨b,rfl⟩⟩ <;> rcases h' with ⟨a',rfl⟩ | ⟨a',⟨b',rfl⟩ | ⟨b',rfl⟩⟩ <;> first | rfl | exact absurd a a' | exact absurd a' a | exact absurd b b' | exact absurd b' b
theorem ChC.zero {n:Int} {OO:List (List Int)} {RR:List (List (List Int))} (h:ChC n OO RR 0):ChOK n OO RR:=by
 rcases h with ⟨_,e⟩ | ⟨_,⟨b,_⟩ | ⟨_,e⟩⟩
 ·cases e
 ·exact b
 ·cases e
theorem ChC.of {n:Int} {OO:List (List Int)} {RR:List (List (List Int))} (h:ChOK n OO RR):ChC n OO RR 0:=by
 obtain ⟨N,O,R,e,h1,h2,_⟩:=id h;exact .inr ⟨by omega,.inl ⟨h,rfl⟩⟩
theorem ChOK.lens {n:Int} {OO:List (List Int)} {RR:List (List (List Int))} (h:ChOK n OO RR):(OO.length:Int)=n∧(RR.length:Int)=n:=by
 obtain ⟨N,O,R,rfl,h1,h2,rfl,rfl,hc,_⟩:=h;rw [List.length_map,List.length_map,hc.lenO,hc.lenR];exact ⟨rfl,rfl⟩
theorem ChOK.row {n:Int} {OO:List (List Int)} {RR:List (List (List Int))} (h:ChOK n OO RR) {i:Nat} (hi:i<RR.length) (hi2:i<OO.length):RR[i].length=OO[i].length∧(RR[i].length:Int)≤n - (i:Int):=by
 obtain ⟨N,O,R,rfl,h1,h2,rfl,rfl,hc,hg⟩:=h;rw [List.length_map] at hi hi2
 have hin:i<N:=by rw [← hc.lenR]; exact hi
 have e1:=hc.len i hin;have e2:=chain_len (Gr.isG (gs:=(·∈R.flatten)) hg) hc hin;rw [getD_inf hi2] at e1 e2;rw [getD_inf hi] at e1;simp only [List.getElem_map,List.length_map,Ma.len_ofN];omega
theorem ChOK.perm {n:Int} {OO:List (List Int)} {RR:List (List (List Int))} (h:ChOK n OO RR) {i:Nat} (hi:i<RR.length) {x:List Int} (hx:x∈RR[i]):(x.length:Int)=n∧Ma.pchk x=0:=by
 obtain ⟨N,O,R,rfl,h1,h2,rfl,rfl,hc,hg⟩:=h;rw [List.length_map] at hi;rw [List.getElem_map] at hx;obtain ⟨y,hy,rfl⟩:=List.mem_map.1 hx;have gy:=hg y (List.mem_flatten.2 ⟨_,List.getElem_mem hi,hy⟩);rw [Ma.len_ofN,gy.2];exact ⟨rfl,Ma.pchk_ok (by rw [Ma.len_ofN,gy.2]; exact h1) (by rw [Ma.len_ofN,gy.2]; exact h2) (Ma.okN_ofN gy.1)⟩
theorem map_ofN_inj:∀ {a b:List (List Nat)},a.map Ma.ofN=b.map Ma.ofN→a=b
 | [],[],_=>rfl
 | [],_ :: _,h=>by simp at h
 | _ :: _,[],h=>by simp at h
 | x :: a,y :: b,h=>by
  simp only [List.map_cons,List.cons.injEq] at h;rw [Ma.ofN_inj h.1,map_ofN_inj h.2]
theorem flat_map_ofN (R:List (List (List Nat))):(R.map (List.map Ma.ofN)).flatten=R.flatten.map Ma.ofN:=by
 induction R with
 | nil=>rfl
 | cons r R ih=>simp only [List.map_cons,List.flatten_cons,List.map_append,ih]
theorem ChOK.same {N:Nat} (h1:1≤N) (h2:N≤64) {OO:List (List Int)} {RR:List (List (List Int))} {gs:List (List Nat)} (hg:∀ s∈gs,Gd N s) (hgs:RR.flatten=gs.map Ma.ofN) {O:List (List Nat)} {R:List (List (List Nat))} (hc:IsChain N (Gr N (·∈gs)) O R) :
  ChOK ((N:Nat):Int) OO RR↔OO=O.map Ma.ofN∧RR=R.map (List.map Ma.ofN):=by
 constructor
 ·rintro ⟨N',O',R',e,_,_,rfl,rfl,hc',_⟩
  obtain rfl:N=N':=by omega
  rw [flat_map_ofN] at hgs;have:=map_ofN_inj hgs;subst this;obtain ⟨rfl,rfl⟩:=hc.uniq hc';exact ⟨rfl,rfl⟩
 ·rintro ⟨rfl,rfl⟩
  rw [flat_map_ofN] at hgs;have:=map_ofN_inj hgs;subst this;exact ⟨N,O,R,rfl,h1,h2,rfl,rfl,hc,hg⟩
theorem chain_ok {N:Nat} (h1:1≤N) (h2:N≤64) {gs:List (List Nat)} (hg:∀ s∈gs,Gd N s) {O:List (List Nat)} {R:List (List (List Nat))} (hc:IsChain N (Gr N (·∈gs)) O R):ChOK ((N:Nat):Int) (O.map Ma.ofN) (R.map (List.map Ma.ofN)):=by
 have hH:=Gr.isG (n:=N) (gs:=(·∈gs)) hg;have e:Gr N (·∈gs)=Gr N (·∈R.flatten):=funext fun x=>propext (chain_gen hH hc x);refine ⟨N,O,R,rfl,h1,h2,rfl,rfl,?_,fun s hs=>hH.gd s (chain_H hc hs)⟩;rw [← e];exact hc
end Go.Proofs.YthehbckogieimaaGreat
