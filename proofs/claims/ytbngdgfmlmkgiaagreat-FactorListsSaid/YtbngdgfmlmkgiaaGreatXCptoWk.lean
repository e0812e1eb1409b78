/- Lemmas and contracts on the way to the statement; no condition of their own beyond those written. -/
import Derived.Test.YtbngdgfmlmkgiaaGreatXMatoVm
import Derived.RangeFuncBox
import Derived.RangeFuncLeaves
import Derived.Shelf.Abstract
import Derived.OwnWalkIn
import Derived.TacticsInMore
import Derived.LoopNIn
import Derived.LoopIn
set_option linter.unusedVariables false
set_option linter.unusedSimpArgs false
set_option maxRecDepth 100000
set_option maxHeartbeats 8000000
variable {n B N k m L j D mb tc tb tf base bytes n₀ cap:Nat} {F M F' F0:Nat→Prop} {W w' W' X w0:Go.World} {ll OO Wd:List (List Int)} {gs O Ks Fd:List (List Nat)} {l xl l1 l2:List Int} {R:List (List (List Nat))} {d:Int} {rv ov v1 v2 z fv xv u1 u2 cv u3:Go.Value} {RR:List (List (List Int))} {H:List Nat→Prop} {y a q s:List Nat} {vs xs:List Go.Value}
namespace Go.Proofs.Cm
open Go.Proofs
def Full (n:Nat) (T:bf) (j:Nat):Prop:=fC n T j∧yl T j∧(T j).gens.length≤Af n T j
structure ju (n i:Nat) (T T1:bf):Prop where
 ext:Ext T T1
 low:∀ j,j<i→T1 j=T j
 gens:(T1 i).gens=(T i).gens
 up:∀ j,i<j→j<n→Full n T1 j
 lvl:fC n T1 i
def lL (T:bf) (i k:Nat):Prop:=∀ m (h:m<(T i).orb.length),m<k→(T i).tried (T i).orb[m]=(T i).gens.length
theorem ju.refl {n i:Nat} {T:bf} (h:fC n T i) (hu:∀ j,i<j→j<n→Full n T j):ju n i T T:=⟨Ext.refl T,fun _ _=>rfl,rfl,hu,h⟩
theorem ju.all {i:Nat} {T T1:bf} (h:ju n i T T1):∀ j,i≤j→j<n→fC n T1 j:=fun j h1 h2=>by
 by_cases e:j=i
 ·subst e; exact h.lvl
 ·exact (h.up j (by omega) h2).1
theorem lL.cmp {i:Nat} {T:bf} (h:lL T i (T i).orb.length) (hl:fC n T i):yl T i:=fun q u hu=>by
 obtain ⟨m,hm,rfl⟩:=List.getElem_of_mem ((hl.orb q).2 ⟨u,hu⟩);exact h m hm hm
theorem Full.ext {n:Nat} {T T':bf} {j:Nat} (h:Full n T j) (hx:Ext T T') (e:T' j=T j) (e2:j+1<n→T' (j+1)=T (j+1)):Full n T' j:=by
 obtain ⟨h1,h2,h3⟩:=h;refine ⟨h1.ext e hx fun h0 s hs=>?_,h2.ext e,by rw [e]; exact Nat.le_trans h3 (I6 hx j)⟩;rw [e2 h0] at hs;exact h1.low h0 s hs
theorem ju.found {i:Nat} {T T1:bf} (h:ju n i T T1) (hd:lL T1 i k) (aB:i<n) {q:Nat} {uq:List Nat} (hk:(T1 i).tried q<(T1 i).gens.length) (hs:(T1 i).gens[(T1 i).tried q]=s) (j7:(T1 i).rep q=some uq) (hp:(T1 i).rep (ap s q)=none)
  (Al:∃ h:k<(T1 i).orb.length,(T1 i).orb[k]=q) :
  ju n i T (find (tick T1 i q) i (ap s q) (Ma.aj uq s))∧lL (find (tick T1 i q) i (ap s q) (Ma.aj uq s)) i k∧((find (tick T1 i q) i (ap s q) (Ma.aj uq s) i).tried q=(T1 i).tried q+1)∧(find (tick T1 i q) i (ap s q) (Ma.aj uq s) i).gens=(T1 i).gens ∧
   ∃ h:k<(find (tick T1 i q) i (ap s q) (Ma.aj uq s) i).orb.length,(find (tick T1 i q) i (ap s q) (Ma.aj uq s) i).orb[k]=q:=by
 have hx:Ext T1 (find (tick T1 i q) i (ap s q) (Ma.aj uq s)):=(jG T1 i q).trans (tB (by rw [dV]; exact hp))
 have ne:∀ j,j≠i→find (tick T1 i q) i (ap s q) (Ma.aj uq s) j=T1 j:=fun j hj=>by rw [oK hj,iA hj]
 have ei:find (tick T1 i q) i (ap s q) (Ma.aj uq s) i={ gens:=(T1 i).gens,orb:=(T1 i).orb++[ap s q],rep:=fun z=>if z=ap s q then some (Ma.aj uq s) else (T1 i).rep z,tried:=fun p=>if p=q then (T1 i).tried p+1 else (T1 i).tried p }:=by rw [mG,dV]
 obtain ⟨EA,Al⟩:=Al;refine ⟨⟨h.ext.trans hx,fun j hj=>by rw [ne j (by omega)]; exact h.low j hj,by rw [ei]; exact h.gens,fun j h1 h2=>(h.up j h1 h2).ext hx (ne j (by omega)) (fun _=>ne _ (by omega)),I_ h.all aB hk hs j7 hp⟩,?_,by rw [ei]; simp,by rw [ei],?_⟩
 ·intro m hm dH
  have mH:m<(T1 i).orb.length:=by omega
  have e1:(find (tick T1 i q) i (ap s q) (Ma.aj uq s) i).orb[m]=(T1 i).orb[m]:=by simp only [ei]; rw [List.getElem_append_left mH]
  rw [e1]
  have hne:(T1 i).orb[m]≠q:=by
   rw [← Al];intro e;have:=(List.getElem_inj h.lvl.nd).1 e;omega
  simp only [ei];rw [if_neg hne];exact hd m mH dH
 ·have fD:k<((T1 i).orb++[ap s q]).length:=by simp; omega
  refine ⟨by rw [ei]; exact fD,?_⟩;simp only [ei];rw [List.getElem_append_left EA]; exact Al
theorem ju.Ia {i:Nat} {T T1 T4:bf} (h:ju n i T T1) (hd:lL T1 i k) {q:Nat} {uq v:List Nat} (hk:(T1 i).tried q<(T1 i).gens.length) (hs:(T1 i).gens[(T1 i).tried q]=s) (j7:(T1 i).rep q=some uq) (hv:(T1 i).rep (ap s q)=some v)
  (Al:∃ h:k<(T1 i).orb.length,(T1 i).orb[k]=q) (hx:Ext (tick T1 i q) T4) (he:∀ j,j<i+1→T4 j=tick T1 i q j) (hu:∀ j,i<j→j<n→Full n T4 j)
  (nT:i+1<n→∀ s∈(T4 (i+1)).gens,Gr n (·∈(T1 i).gens) s) (Q8:Sd n (bX T4) (n - (i+1)) (Ma.aj (Ma.aj uq s) (Ma.aO v))) :
  ju n i T T4∧lL T4 i k∧(T4 i).tried q=(T1 i).tried q+1∧(T4 i).gens=(T1 i).gens∧∃ h:k<(T4 i).orb.length,(T4 i).orb[k]=q:=by
 have tD:=(jG T1 i q).trans hx;have ei:=(he i (by omega)).trans (dV T1 i q);obtain ⟨EA,Al⟩:=Al;refine ⟨⟨h.ext.trans tD,fun j hj=>by rw [he j (by omega),iA (by omega)]; exact h.low j hj,by rw [ei]; exact h.gens,hu,I9 h.lvl hk hs j7 (he i (by omega)) tD nT hv Q8⟩,?_,by rw [ei]; simp,by rw [ei],?_⟩
 ·intro m hm dH
  have mH:m<(T1 i).orb.length:=by rw [ei] at hm; exact hm
  have hne:(T1 i).orb[m]≠q:=by
   rw [← Al];intro e;have:=(List.getElem_inj h.lvl.nd).1 e;omega
  simp only [ei];rw [if_neg hne];exact hd m mH dH
 ·refine ⟨by rw [ei]; exact EA,?_⟩
  simp only [ei]; exact Al
theorem Le {i q:Nat} {T:bf} (h:fC n T i) (aB:i<n) {uq v:List Nat} (hs:s∈(T i).gens) (j7:(T i).rep q=some uq) (hv:(T i).rep (ap s q)=some v) :
  Gd n (Ma.aj uq s)∧Gd n v∧ap (Ma.aj uq s) i=ap s q∧Gd n (Ma.aj (Ma.aj uq s) (Ma.aO v))∧Fx (i+1) (Ma.aj (Ma.aj uq s) (Ma.aO v))∧Gr n (·∈(T i).gens) (Ma.aj (Ma.aj uq s) (Ma.aO v)):=by
 have gs:=h.yk s hs;have gu:=h.vY q uq j7;have gv:=h.vY _ v hv;have gy:=a_ gu gs
 have ay:ap (Ma.aj uq s) i=ap s q:=by rw [bU gu aB,h.Ad q uq j7]
 have fy:Fx i (Ma.aj uq s):=Fx.mul gu (by omega) (h.BL q uq j7) (h.I5 s hs);refine ⟨gy,gv,ay,a_ gy (aW gv),fun j hj=>?_,.mul _ _ (.mul _ _ (h.BN q uq j7) (.gen _ hs)) (.inv _ (h.BN _ v hv))⟩;rw [bU gy (by omega)]
 by_cases e:j=i
 ·subst e
  rw [ay,← h.Ad _ v hv];exact gX gv aB
 ·rw [fy j (by omega)]
  exact Fx.inv gv (by omega) (h.BL _ v hv) j (by omega)
structure tE (n i:Nat) (T T':bf) (x:List Nat):Prop where
 ext:Ext T T'
 low:∀ j,j<i→T' j=T j
 full:∀ j,i≤j→j<n→Full n T' j
 sd:Sd n (bX T') (n - i) x
 gens:∀ H:List Nat→Prop,eI n H→(∀ s∈(T i).gens,H s)→H x→∀ s∈(T' i).gens,H s
theorem tE.same {i:Nat} {T:bf} {x:List Nat} (hf:∀ j,i≤j→j<n→Full n T j) (hi:i<n) (gx:Gd n x) (fx:Fx i x) (h:(cS n (bX T) (n - i) x).1=n):tE n i T T x:=by
 have hr:Rp n i (bX T):=fC.rp fun j a b=>(hf j a b).1;obtain ⟨_,_,g,f,_⟩:=mE hr (d:=n - i) (x:=x) (by omega) (by omega) gx (by rw [show n - (n - i)=i by omega]; exact fx);rw [h] at f;refine ⟨Ext.refl T,fun _ _=>rfl,hf,?_,fun H _ hs _=>hs⟩;refine pI (tr:=bX T) (by omega) (fun _ _ _ _ e=>e) ?_;rw [h,Nat.sub_self];exact Fx.all g f
structure lM (n i at_ k:Nat) (T T1:bf) (r:List Nat):Prop where
 ext:Ext T T1
 low:∀ j,j<i→T1 j=T j
 put:∀ j,i≤j→j<k→T1 j=gL T i at_ r j
 full:∀ j,k≤j→j<n→Full n T1 j
 Qh:k≤at_→(T1 k).gens=(T k).gens++[r]
 tail:k=at_+1→∀ j,at_<j→T1 j=T j
 Qi:r∈(T1 at_).gens
 more:k≤at_→(T at_).orb.length<(T1 at_).orb.length
theorem lM.start {i at_:Nat} {T:bf} {r:List Nat} (hf:∀ j,i≤j→j<n→Full n T j) (hi:i≤at_):lM n i at_ (at_+1) T (gL T i at_ r) r :=
 ⟨tA _ _ _ _,fun j hj=>eL (by omega),fun _ _ _=>rfl,fun j h1 h2=>(hf j (by omega) h2).ext (tA T i at_ r) (eL (by omega)) (fun _=>eL (by omega)),fun h=>by omega,fun _ j hj=>eL (by omega),
  by rw [iy ⟨hi,Nat.le_refl _⟩]; exact List.mem_append_right _ (List.mem_singleton.2 rfl),fun h=>by omega⟩
theorem lM.lvl {i at_:Nat} {T T1:bf} {r:List Nat} (h:lM n i at_ (k+1) T T1 r) (hf:∀ j,i≤j→j<n→Full n T j) (hi:i≤k) (hk:k≤at_) (ha:at_<n) (gr:Gd n r) (fr:Fx at_ r):fC n T1 k:=by
 have h1:=I8 (hf k hi (by omega)).1 hi gr fr;have e0:=h.put k hi (by omega);refine h1.Qg e0 (fun j p u e=>?_) fun h0 s hs=>?_
 ·have:bX (gL T i at_ r) j p=some u:=e
  rw [rK] at this;exact h.ext.rep j p u this
 ·by_cases e:k+1≤at_
  ·rw [h.Qh e] at hs
   have hp:=h1.low h0 s;rw [iy (j:=k+1) ⟨by omega,e⟩] at hp;exact hp hs
  ·have e2:k+1=at_+1:=by omega
   rw [h.tail e2 (k+1) (by omega)] at hs;have hp:=h1.low h0 s;rw [eL (j:=k+1) (by omega)] at hp;exact hp hs
theorem lM.step {i at_:Nat} {T T1 T2:bf} {r:List Nat} (h:lM n i at_ (k+1) T T1 r) (hf:∀ j,i≤j→j<n→Full n T j) (hi:i≤k) (hk:k≤at_) (ha:at_<n) (hp:(T at_).rep (ap r at_)=none) (hc:ju n k T1 T2) (uO:yl T2 k):lM n i at_ k T T2 r:=by
 have hx:=h.ext.trans hc.ext
 have hg:(T2 k).gens=(T k).gens++[r]:=by rw [hc.gens,h.put k hi (by omega),iy ⟨hi,hk⟩]
 have hm:=hc.ext.gens at_ r h.Qi
 have aJ:(T at_).orb.length<(T2 at_).orb.length:=by
  by_cases e:k=at_
  ·subst e
   have h0:=(hf k hi ha).1;have hl:=hc.lvl;have Lf:=hl.self;obtain ⟨m,Am,rD⟩:=List.getElem_of_mem hm;obtain ⟨v,hv,_⟩:=hl.pr k _ m Am Lf (by rw [uO k _ Lf]; exact Am);rw [rD] at hv;have aB:=(hl.orb (ap r k)).2 ⟨v,hv⟩
   have Vf:ap r k∉(T k).orb:=fun hh=>by
    obtain ⟨u,hu⟩:=(h0.orb _).1 hh;rw [hp] at hu; cases hu
   have pR:(ap r k :: (T k).orb).Nodup:=List.nodup_cons.2 ⟨Vf,h0.nd⟩
   have:=List.Nodup.length_le_of_subset pR (l₂:=(T2 k).orb) (fun z hz=>by
    rcases List.mem_cons.1 hz with rfl | hz
    ·exact aB
    ·obtain ⟨u,hu⟩:=(h0.orb z).1 hz
     exact (hl.orb z).2 ⟨u,hx.rep k z u hu⟩)
   simp at this; omega
  ·exact Nat.lt_of_lt_of_le (h.more (by omega)) (hc.ext.orb at_)
 refine ⟨hx,fun j hj=>by rw [hc.low j (by omega)]; exact h.low j hj,fun j h1 h2=>by rw [hc.low j h2]; exact h.put j h1 (by omega),fun j h1 h2=>?_,fun _=>hg,fun e=>by omega,hm,fun _=>aJ⟩
 by_cases e:j=k
 ·subst e
  refine ⟨hc.lvl,uO,?_⟩;have:=(hf j hi h2).2.2;have h3:=I7 (n:=n) hx ha hk aJ;rw [hg,List.length_append,List.length_singleton];omega
 ·exact hc.up j (by omega) h2
theorem lM.up {i at_:Nat} {T T1:bf} {r:List Nat} (h:lM n i at_ (k+1) T T1 r):∀ j,k<j→j<n→Full n T1 j:=fun j h1 h2=>h.full j (by omega) h2
theorem lM.added {i:Nat} {T T1:bf} {x:List Nat} (hf:∀ j,i≤j→j<n→Full n T j) (hi:i<n) (gx:Gd n x) (fx:Fx i x) (h:lM n i (cS n (bX T) (n - i) x).1 i T T1 (cS n (bX T) (n - i) x).2) (ha:(cS n (bX T) (n - i) x).1<n):tE n i T T1 x:=by
 have hr:Rp n i (bX T):=fC.rp fun j a b=>(hf j a b).1;obtain ⟨_,KZ,gr,fr,_⟩:=mE hr (d:=n - i) (x:=x) (by omega) (by omega) gx (by rw [show n - (n - i)=i by omega]; exact fx);rw [show n - (n - i)=i by omega] at KZ;refine ⟨h.ext,h.low,h.full,?_,fun H hH hs hx s ky=>?_⟩
 ·refine pI (tr:=bX T) (by omega) (fun j p u _ e=>h.ext.rep j p u e) ?_
  exact fC.sd (fun j h1 h2=>⟨(h.full j (by omega) h2).1,(h.full j (by omega) h2).2.1⟩) ha (.gen _ h.Qi)
 ·rw [h.Qh KZ] at ky
  rcases List.mem_append.1 ky with ky | ky
  ·exact hs s ky
  ·rw [List.mem_singleton] at ky
   subst ky;refine vX hH (by omega) (fun j p u h1 h2 hu=>?_) hx;have hT:tx n i (fun j s=>s∈(T j).gens) (bX T):=fC.Q6 fun j a b=>⟨(hf j a b).1,(hf j a b).2.1⟩;have h3:=hT.mem j p u (by omega) h2 hu;have h4:=hT.sub (i:=i) (Nat.le_refl _) (k:=j - i) (by omega) (x:=u) (by rwa [show i+(j - i)=j by omega]);exact Gr.sub hH hs h4
end Go.Proofs.Cm

namespace Go.Proofs.YtbngdgfmlmkgiaaGreat
open Go.RowKit
open Go.Proofs
open Go.Proofs.Cm (Lv bf bX)
attribute [local irreducible] Go.Calls
theorem Re (args:Array Value) (w:World):(callFunc 124 args).run Tryz.prog w=.ok (.enter 124 args) w:=by kernel_rfl
theorem Lg (args:Array Value) (w:World):(callFunc 84 args).run Tryz.prog w=.ok (.enter 84 args) w:=by kernel_rfl
theorem iE {w:World} {e:TypeId} {v:Value} (h:w.ownsRow B e 1 v n xs) (hk:k<n):∃ g c u,v=.slice (some ⟨g,0,none⟩) n c∧w.cell? ⟨g,0+k,none⟩=some u∧xs[k]?=some u∧g<w.heap.size:=by
 have hh:=h;obtain ⟨h1,h2⟩:=h
 rcases h2 with ⟨_,h0⟩ | ⟨g,cap,cur,rfl,hg,hc,h3,h4,h5,h6⟩
 ·omega
 ·have hx:k<xs.length:=by omega
  refine ⟨g,cap,xs[k],rfl,?_,List.getElem?_eq_getElem hx,(Array.getElem?_eq_some_iff.1 hc).1⟩;have:=hh.cells (g:=g) rfl k xs[k] (List.getElem?_eq_getElem hx);rw [Nat.zero_add];unfold Addr.add at this
  split at this
  ·rename_i h0; subst h0; exact this
  ·simpa using this
theorem aV.Qj {w:World} {T:bf} {V:Nat→LV} (h:aV F L n w T V) {i:Nat} (hi:i<n) (hk:k<(T i).orb.length):∃ g c,(V i).o=.slice (some ⟨g,0,none⟩) (T i).orb.length c∧w.cell? ⟨g,0+k,none⟩=some (.int .i64 (((T i).orb[k]:Nat):Int))∧g<w.heap.size:=by
 obtain ⟨g,c,u,e,h1,h2,h3⟩:=iE (h.lv i hi).pZ hk;refine ⟨g,c,e,?_,h3⟩;rw [h1,← h2];simp [Ma.ah,List.getElem?_eq_getElem hk]
theorem aV.nU {w:World} {T:bf} {V:Nat→LV} (h:aV F L n w T V) {i:Nat} (hi:i<n):∃ a c,(V i).o=.slice a (T i).orb.length c:=Rg.bY (h.lv i hi).pZ
theorem aV.Qk {w:World} {T:bf} {V:Nat→LV} (h:aV F L n w T V) {i:Nat} (hi:i<n):∃ a c,(V i).g=.slice a (T i).gens.length c:=Rg.bY (h.lv i hi).pY
theorem aV.Vg {w:World} {T:bf} {V:Nat→LV} (h:aV F L n w T V) {i:Nat} (hi:i<n) (hk:k<(T i).gens.length):∃ g c u,(V i).g=.slice (some ⟨g,0,none⟩) (T i).gens.length c∧w.cell? ⟨g,0+k,none⟩=some u∧FP F w u (T i).gens[k]∧g<w.heap.size:=by
 obtain ⟨g,c,u,e,h1,h2,h3⟩:=iE (h.lv i hi).pY hk;refine ⟨g,c,u,e,h1,?_,h3⟩;have YL:=(h.lv i hi).BU;obtain ⟨YM,rfl⟩:=List.getElem?_eq_some_iff.1 h2;have:=YL.2 k YM (by simpa using hk);simp only [List.getElem_map] at this;exact this
structure CL (w:World) (b o:Nat) (v:Value):Prop where
 cell:w.cell? ⟨b,o,none⟩=some v
 lt:b<w.heap.size
theorem CL.up {w:World} {b o:Nat} {v:Value} (h:CL w b o v) (hb:Below w.heap.size w w'):CL w' b o v:=⟨(hb.cell (p:=⟨b,o,none⟩) h.lt).trans h.cell,Nat.lt_of_lt_of_le h.lt hb.size⟩
theorem lL.next {T:bf} {i q:Nat} (h:Cm.lL T i k) (hq:∃ h:k<(T i).orb.length,(T i).orb[k]=q) (ht:(T i).tried q=(T i).gens.length):Cm.lL T i (k+1):=fun m hm dH=>by
 by_cases e:m=k
 ·subst e
  obtain ⟨_,e⟩:=hq;rw [e]; exact ht
 ·exact h m hm (by omega)
open Go.Proofs.Cm in
def vB (n i:Nat):Prop:=∀ (F:Nat→Prop) (L tb:Nat) (w:World) (T:bf) (V:Nat→LV),aV F L n w T V→CF F w tb 0 (.int .i64 ((n:Nat):Int))→CF F w tb 1 (.slice (some ⟨L,0,none⟩) n n)→(∀ j,i<j→j<n→Full n T j)→fC n T i→(T i).gens.length≤5000 →
 Calls Tryz.prog 106 #[.pointer (some ⟨tb,0,none⟩),.int .i64 ((i:Nat):Int)] w fun e w'=>∃ F' T' V',e=.returned (.tuple #[])∧KG F w F' w'∧aV F' L n w' T' V'∧ju n i T T'∧yl T' i
open Go.Proofs.Cm in
def Lh (n i:Nat):Prop:=∀ (F:Nat→Prop) (L tb:Nat) (w:World) (T:bf) (V:Nat→LV) (xv:Value) (x:List Nat),aV F L n w T V→CF F w tb 0 (.int .i64 ((n:Nat):Int))→CF F w tb 1 (.slice (some ⟨L,0,none⟩) n n)→FP F w xv x→Gd n x→Fx i x→(∀ j,i≤j→j<n→Full n T j) →
 Calls Tryz.prog 84 #[.pointer (some ⟨tb,0,none⟩),xv,.int .i64 ((i:Nat):Int)] w fun e w'=>∃ F' T' V',e=.returned (.tuple #[])∧KG F w F' w'∧aV F' L n w' T' V'∧tE n i T T' x
open Go.Proofs.Cm in
theorem EB {i:Nat} (aZ:1≤n) (bn:n≤64) (aB:i<n) (Ql:i+1<n→Lh n (i+1)):vB n i:=by
 intro F L tb w T V hT cr eJ oL tF dm;have K:=ι (KG.refl hT.gB);have HT:=ι hT;have C0:=ι cr;have C1:=ι eJ;have HI:=ι (ju.refl tF oL);have HD:=ι (show lL T i 0 from fun m _ h=>absurd h (Nat.not_lt_zero _));have Li:=ι Ql;have HG:=ι dm;have YO:=ι (mF tF);clear hT cr eJ oL tF Ql dm
 go_enter Tryz.func106,Tryz.ntmps106
 go_upto_region 0 with fail
 refine b6<|i6 rfl<|i8 (aY _ rfl rfl)<|i8 (g8 (jI _ _))<|i8 (d8 (.slice (some ⟨L,0,none⟩) n n) ⟨tb,1,none⟩ (Rg.ae _ _ Tryz.underlying120 C1.out.cell)) ?_;go_frame
 refine i4 rfl<|i8 (cT _ _ rfl Tryz.underlying120 gN L (n) (n) (i) rfl rfl aB)<|i6 rfl ?_;go_frame
 have lW:=HT.out.nU aB;obtain ⟨YP,YQ,lW⟩:=lW
 have Lj:w.cell? ⟨L,i*194+1,none⟩=some (.slice YP (T i).orb.length YQ):=by rw [ur HT.out aB (by omega),lW]
 have Ji:((T i).orb.length:Int)≤64:=by have:=YO.out; omega
 clear lW;go_wp2
 go_loopw [5] (fun kv wr=>∃ (k:Nat) (F1:Nat→Prop) (T1:bf) (V1:Nat→LV),kv=.int .i64 k∧k≤(T1 i).orb.length∧Hid (aV F1 L n wr T1 V1)∧Hid (CF F1 wr tb 0 (.int .i64 ((n:Nat):Int)))∧Hid (CF F1 wr tb 1 (.slice (some ⟨L,0,none⟩) n n))∧Hid (KG F w F1 wr)∧Hid (ju n i T T1)∧Hid (lL T1 i k)) (fun kv _=>n - (intOf kv).toNat)
 case atStart=>exact ⟨0,F,T,V,rfl,Nat.zero_le _,HT,C0,C1,K,HI,HD⟩
 case round =>
  clear HT C0 C1 K HI HD Lj Ji;obtain ⟨k,F1,T1,V,rfl,hk,HT,C0,C1,K,HI,HD⟩:=hrel;have oM:=mF HI.out.lvl
  have Ji:((T1 i).orb.length:Int)≤64:=by omega
  by_cases bP:k<(T1 i).orb.length
  ·obtain ⟨ob,oc,lW,j8,uT⟩:=HT.out.Qj aB bP
   have Lj:wr.cell? ⟨L,i*194+1,none⟩=some (.slice (some ⟨ob,0,none⟩) (T1 i).orb.length oc):=by rw [ur HT.out aB (by omega),lW]
   have iH:(k:Int)<((T1 i).orb.length:Int):=by omega
   obtain ⟨q,hq⟩:∃ q:Nat,Hid (q=(T1 i).orb[k]):=⟨_,ι rfl⟩;have bd:=ι bP;have Qm:=ι (show wr.cell? ⟨ob,0+k,none⟩=some (.int .i64 ((q:Nat):Int)) by rw [hq.out]; exact j8);have Ao:=ι Lj;clear lW j8 uT;go_upto_region 4 with fail
   refine b6<|i6 rfl<|i8 (aY _ rfl rfl)<|i8 (g8 (zm _ _ _))<|i8 (d8 (.slice (some ⟨ob,0,none⟩) (T1 i).orb.length oc) ⟨L,i*194+1,none⟩ (Rg.ae _ _ Tryz.underlying25 Ao.out)) ?_;go_frame
   refine i4 rfl<|i8 (ag aX _ _ rfl ob (0) ((T1 i).orb.length) oc (k) rfl rfl bd.out)<|i8 (d8 (.int .i64 ((q:Nat):Int)) ⟨ob,0+k,none⟩ (af Qm.out))<|i4 rfl ?_;go_frame
   have Lk:=ι (show q∈(T1 i).orb by rw [hq.out]; exact List.getElem_mem bd.out);obtain ⟨uq,j7⟩:=(HI.out.lvl.orb q).1 Lk.out;have gZ:q<n:=HI.out.lvl.Ae q uq j7;have YR:=ι j7;have B_:=ι (show ∃ h:k<(T1 i).orb.length,(T1 i).orb[k]=q from ⟨bd.out,hq.out.symm⟩);have EC:=ι (Ext.refl T1);have hle:=HI.out.lvl.le q;have Ap:=ι (show ((T1 i).gens.length - (T1 i).tried q)+(T1 i).tried q=(T1 i).gens.length by omega);clear j7 Lj hle Qm hq Lk iH oM Ji Ao
   have jt:q<64:=by omega
   go_wp2;simp only [Nat.zero_add]
   go_loopg [] ((T1 i).gens.length - (T1 i).tried q) (fun g wr=>∃ (F2:Nat→Prop) (T2:bf) (V2:Nat→LV),Hid (g+(T2 i).tried q=(T2 i).gens.length)∧Hid (aV F2 L n wr T2 V2)∧Hid (CF F2 wr tb 0 (.int .i64 ((n:Nat):Int)))∧Hid (CF F2 wr tb 1 (.slice (some ⟨L,0,none⟩) n n))∧Hid (KG F w F2 wr)∧Hid (ju n i T T2)∧Hid (lL T2 i k)∧Hid (∃ h:k<(T2 i).orb.length,(T2 i).orb[k]=q)∧Hid (Ext T1 T2))
   case atStart=>exact ⟨F1,T1,V,Ap,HT,C0,C1,K,HI,HD,B_,EC⟩
   case round =>
    clear HT C0 C1 K HI HD B_ EC Ap bd;obtain ⟨F2,T2,V2,HN,HT,C0,C1,K,HI,HD,B_,EC⟩:=hrel;obtain ⟨tr,dx⟩:∃ tr:Nat,Hid (tr=(T2 i).tried q):=⟨_,ι rfl⟩;obtain ⟨gn,yu⟩:∃ gn:Nat,Hid (gn=(T2 i).gens.length):=⟨_,ι rfl⟩
    have Vh:gk+tr=gn:=by rw [dx.out,yu.out]; exact HN.out
    have aad:gn≤5000:=by rw [yu.out,HI.out.gens]; exact HG.out
    have CT:=ι (CL.mk (show wr.cell? ⟨L,i*194+130+q,none⟩=some (.int .i64 ((tr:Nat):Int)) by rw [Je HT.out aB jt (by omega),← dx.out]) HT.out.lt);obtain ⟨ga,gc,Ca⟩:=HT.out.Qk aB;have CG:=ι (CL.mk (show wr.cell? ⟨L,i*194,none⟩=some (.slice ga gn gc) by rw [La HT.out aB rfl,Ca,yu.out]) HT.out.lt);have oM:=mF HI.out.lvl
    by_cases BQ:gk=0
    ·clear Ca
     go_upto_region 5 with fail;have aw:Below wr.heap.size wr wr.drew:=(Below.refl _ _).drew;replace HT:=ι (HT.out.up aw);replace C0:=ι (C0.out.up aw);replace C1:=ι (C1.out.up aw);replace CT:=ι (CT.out.up aw);replace CG:=ι (CG.out.up aw);replace K:=ι (K.out.up aw);generalize cx F2 wr wr.drew=F1 at *;clear aw;refine Rg.Any.begin (S:=Rg.aH 11 (fun _=>True) (fun W=>Below wr.drew.heap.size wr.drew W)) mix ?_;generalize wr.drew=ew at *;have hS:∀ (l:Array Bool) W,Below ew.heap.size ew W→Rg.aH 11 (fun _=>True) (fun W=>Below ew.heap.size ew W) l W:=fun l W h=>⟨.inr trivial,h⟩;have hI:Below ew.heap.size ew ew:=Below.refl _ _
     refine c8 0 11 (.pointer (some ⟨L,i*194,none⟩)) 32 (hS _ _ hI)<|c8 1 11 (.int .i64 ((q:Nat):Int)) 33 (hS _ _ hI)<|c7 2 11 (.pointer (some ⟨L,i*194,none⟩)) 34 rfl rfl (g7 fun w=>aY _ rfl rfl) (hS _ _ hI)<|c7 3 11 (.pointer (some ⟨L,i*194+130,none⟩)) 35 rfl rfl (g7 fun w=>aA _ rfl rfl (BW _ _ _)) (hS _ _ hI)<|c7 4 11 (.pointer (some ⟨L,i*194+130+q,none⟩)) 36 rfl rfl (g7 fun w=>bp _ _ rfl Tryz.underlying128 KP L (i*194+130) (q) rfl rfl jt) (hS _ _ hI) ?_;go_frame
     refine c7 5 11 (.int .i64 ((tr:Nat):Int)) 37 rfl rfl (g6 ⟨L,i*194+130+q,none⟩ (fun W hW=>af ((Below.cell (p:=⟨L,i*194+130+q,none⟩) hW CT.out.lt).trans CT.out.cell))) (hS _ _ hI)<|c8 6 11 (.pointer (some ⟨L,i*194,none⟩)) 38 (hS _ _ hI)<|c7 7 11 (.pointer (some ⟨L,i*194,none⟩)) 39 rfl rfl (g7 fun w=>aY _ rfl rfl) (hS _ _ hI)<|c7 8 11 (.pointer (some ⟨L,i*194,none⟩)) 40 rfl rfl (g7 fun w=>aA _ rfl rfl (BV _ _ _)) (hS _ _ hI)<|c7 9 11 (.slice ga gn gc) 41 rfl rfl (g6 ⟨L,i*194,none⟩ (fun W hW=>Rg.ae _ _ Tryz.underlying22 ((Below.cell (p:=⟨L,i*194,none⟩) hW CG.out.lt).trans CG.out.cell))) (hS _ _ hI) ?_;go_frame
     refine c7 10 11 (.int .i64 ((gn:Nat):Int)) 42 rfl rfl (g7 fun w=>cZ _ _ _ rfl Tryz.underlying22 _ _ _ rfl) (hS _ _ hI)<|g5 11 43 rfl rfl (d9 (.bool false) .lss (h:=aL _ d6)) (hS _ _ hI) ?_;go_frame
     refine Rg.Any.done (by kernel_rfl) ?_ _;clear hS hI;have Rf:=ι (lL.next HD.out B_.out (by rw [← dx.out,← yu.out]; omega));obtain ⟨Vi,Ll⟩:=B_.out;go_wp2
     go_roundw
     case rel=>exact ⟨k+1,_,T2,V2,by go_num,Vi,HT,C0,C1,K,HI,Rf⟩
     case measure=>simp [intOf]; omega
    ·obtain ⟨gb,gc',u,Qn,OG,OS,dm⟩:=HT.out.Vg aB (k:=tr) (by have:=yu.out; omega)
     rw [Ca,← yu.out] at Qn
     injection Qn with e1 _ e2
     subst e1 e2;have Lm:=ι (show tr<gn by omega);obtain ⟨s,hs⟩:∃ s,Hid (∃ h:tr<(T2 i).gens.length,(T2 i).gens[tr]=s):=⟨_,ι ⟨by rw [← yu.out]; omega,rfl⟩⟩;obtain ⟨s7,ky⟩:=hs.out;have rL:=ι (show s∈(T2 i).gens by rw [← ky]; exact List.getElem_mem s7);have GS:=ι (HI.out.lvl.yk s rL.out);rw [ky] at OS;obtain ⟨sb,so,sc,rfl⟩:=OS.eC GS.out aZ;have SP:=ι OS;have CS:=ι (CL.mk OG dm);have OT:=EC.out.rep i q uq YR.out;have Ln:=ι OT;have GU:=ι (HI.out.lvl.vY q uq OT)
     have Qo:Cm.ap (Ma.aj uq s) i=Cm.ap s q:=by rw [Cm.bU GU.out aB,HI.out.lvl.Ad q uq OT]
     have GY:=ι (Cm.a_ GU.out GS.out);obtain ⟨p,hp⟩:∃ p,Hid (p=Cm.ap s q):=⟨_,ι rfl⟩;have Vj:=ι (show Cm.ap (Ma.aj uq s) i=p by rw [hp.out]; exact Qo)
     have OU:p<n:=by rw [← Vj.out]; exact Cm.eH GY.out aB
     have jw:p<64:=by omega
     have HGT:=ι Vh;have Jj:=ι BQ;clear Ca OG OS dm s7 ky OT Qo Vh BQ
     have hkT:(tr:Int)<(gn:Int):=by have:=Lm.out; omega
     go_upto_region 5 with fail;have aw:Below wr.heap.size wr wr.drew:=(Below.refl _ _).drew;replace HT:=ι (HT.out.up aw);replace C0:=ι (C0.out.up aw);replace C1:=ι (C1.out.up aw);replace CT:=ι (CT.out.up aw);replace CG:=ι (CG.out.up aw);replace CS:=ι (CS.out.up aw);replace SP:=ι (SP.out.up aw);replace K:=ι (K.out.up aw);generalize cx F2 wr wr.drew=F1 at *;clear aw;refine Rg.Any.begin (S:=Rg.aH 11 (fun _=>True) (fun W=>Below wr.drew.heap.size wr.drew W)) mix ?_;generalize wr.drew=ew at *;have hS:∀ (l:Array Bool) W,Below ew.heap.size ew W→Rg.aH 11 (fun _=>True) (fun W=>Below ew.heap.size ew W) l W:=fun l W h=>⟨.inr trivial,h⟩;have hI:Below ew.heap.size ew ew:=Below.refl _ _
     refine c8 0 11 (.pointer (some ⟨L,i*194,none⟩)) 32 (hS _ _ hI)<|c8 1 11 (.int .i64 ((q:Nat):Int)) 33 (hS _ _ hI)<|c7 2 11 (.pointer (some ⟨L,i*194,none⟩)) 34 rfl rfl (g7 fun w=>aY _ rfl rfl) (hS _ _ hI)<|c7 3 11 (.pointer (some ⟨L,i*194+130,none⟩)) 35 rfl rfl (g7 fun w=>aA _ rfl rfl (BW _ _ _)) (hS _ _ hI)<|c7 4 11 (.pointer (some ⟨L,i*194+130+q,none⟩)) 36 rfl rfl (g7 fun w=>bp _ _ rfl Tryz.underlying128 KP L (i*194+130) (q) rfl rfl jt) (hS _ _ hI) ?_;go_frame
     refine c7 5 11 (.int .i64 ((tr:Nat):Int)) 37 rfl rfl (g6 ⟨L,i*194+130+q,none⟩ (fun W hW=>af ((Below.cell (p:=⟨L,i*194+130+q,none⟩) hW CT.out.lt).trans CT.out.cell))) (hS _ _ hI)<|c8 6 11 (.pointer (some ⟨L,i*194,none⟩)) 38 (hS _ _ hI)<|c7 7 11 (.pointer (some ⟨L,i*194,none⟩)) 39 rfl rfl (g7 fun w=>aY _ rfl rfl) (hS _ _ hI)<|c7 8 11 (.pointer (some ⟨L,i*194,none⟩)) 40 rfl rfl (g7 fun w=>aA _ rfl rfl (BV _ _ _)) (hS _ _ hI)<|c7 9 11 (.slice (some ⟨gb,0,none⟩) gn gc) 41 rfl rfl (g6 ⟨L,i*194,none⟩ (fun W hW=>Rg.ae _ _ Tryz.underlying22 ((Below.cell (p:=⟨L,i*194,none⟩) hW CG.out.lt).trans CG.out.cell))) (hS _ _ hI) ?_;go_frame
     refine c7 10 11 (.int .i64 ((gn:Nat):Int)) 42 rfl rfl (g7 fun w=>cZ _ _ _ rfl Tryz.underlying22 _ _ _ rfl) (hS _ _ hI)<|g5 11 43 rfl rfl (d9 (.bool true) .lss (h:=aL _ d5)) (hS _ _ hI) ?_;go_frame
     refine Rg.Any.done (by kernel_rfl) ?_ _;clear hS hI;go_upto_region 6 with fail;have aw:Below ew.heap.size ew ew.drew:=(Below.refl _ _).drew;replace HT:=ι (HT.out.up aw);replace C0:=ι (C0.out.up aw);replace C1:=ι (C1.out.up aw);replace CT:=ι (CT.out.up aw);replace CG:=ι (CG.out.up aw);replace CS:=ι (CS.out.up aw);replace SP:=ι (SP.out.up aw);replace K:=ι (K.out.up aw);generalize cx F1 ew ew.drew=F2 at *;clear aw;refine Rg.Any.begin (S:=Rg.aH 12 (fun _=>True) (fun W=>Below ew.drew.heap.size ew.drew W)) mix ?_;generalize ew.drew=fX at *;have hS:∀ (l:Array Bool) W,Below fX.heap.size fX W→Rg.aH 12 (fun _=>True) (fun W=>Below fX.heap.size fX W) l W:=fun l W h=>⟨.inr trivial,h⟩;have hI:Below fX.heap.size fX fX:=Below.refl _ _
     refine c8 0 12 (.pointer (some ⟨L,i*194,none⟩)) 44 (hS _ _ hI)<|c7 1 12 (.pointer (some ⟨L,i*194,none⟩)) 45 rfl rfl (g7 fun w=>aY _ rfl rfl) (hS _ _ hI)<|c7 2 12 (.pointer (some ⟨L,i*194,none⟩)) 46 rfl rfl (g7 fun w=>aA _ rfl rfl (BV _ _ _)) (hS _ _ hI)<|c7 3 12 (.slice (some ⟨gb,0,none⟩) gn gc) 47 rfl rfl (g6 ⟨L,i*194,none⟩ (fun W hW=>Rg.ae _ _ Tryz.underlying22 ((Below.cell (p:=⟨L,i*194,none⟩) hW CG.out.lt).trans CG.out.cell))) (hS _ _ hI)<|c8 4 12 (.pointer (some ⟨L,i*194,none⟩)) 48 (hS _ _ hI) ?_;go_frame
     refine c8 5 12 (.int .i64 ((q:Nat):Int)) 49 (hS _ _ hI)<|c7 6 12 (.pointer (some ⟨L,i*194,none⟩)) 50 rfl rfl (g7 fun w=>aY _ rfl rfl) (hS _ _ hI)<|c7 7 12 (.pointer (some ⟨L,i*194+130,none⟩)) 51 rfl rfl (g7 fun w=>aA _ rfl rfl (BW _ _ _)) (hS _ _ hI)<|c7 8 12 (.pointer (some ⟨L,i*194+130+q,none⟩)) 52 rfl rfl (g7 fun w=>bp _ _ rfl Tryz.underlying128 KP L (i*194+130) (q) rfl rfl jt) (hS _ _ hI)<|c7 9 12 (.int .i64 ((tr:Nat):Int)) 53 rfl rfl (g6 ⟨L,i*194+130+q,none⟩ (fun W hW=>af ((Below.cell (p:=⟨L,i*194+130+q,none⟩) hW CT.out.lt).trans CT.out.cell))) (hS _ _ hI) ?_;go_frame
     refine c7 10 12 (.pointer (some ⟨gb,0+tr,none⟩)) 54 rfl rfl (Rg.ai aE _ _ rfl rfl gb (0) (gn) gc (tr) rfl rfl Lm.out) (hS _ _ hI)<|c7 11 12 (.slice (some ⟨sb,so,none⟩) n sc) 55 rfl rfl (g6 ⟨gb,0+tr,none⟩ (fun W hW=>Rg.ae _ _ Tryz.underlying26 ((Below.cell (p:=⟨gb,0+tr,none⟩) hW CS.out.lt).trans CS.out.cell))) (hS _ _ hI)<|g5 12 7 rfl rfl (b5 (.slice (some ⟨sb,so,none⟩) n sc) _ rfl rfl) (hS _ _ hI) ?_;go_frame
     refine Rg.Any.done (by kernel_rfl) ?_ _;clear hS hI;go_upto_region 7 with fail;have aw:Below fX.heap.size fX fX.drew:=(Below.refl _ _).drew;replace HT:=ι (HT.out.up aw);replace C0:=ι (C0.out.up aw);replace C1:=ι (C1.out.up aw);replace CT:=ι (CT.out.up aw);replace CG:=ι (CG.out.up aw);replace CS:=ι (CS.out.up aw);replace SP:=ι (SP.out.up aw);replace K:=ι (K.out.up aw);generalize cx F2 fX fX.drew=F3 at *;clear aw;refine Rg.Any.begin (S:=Rg.aH 10 (fun W=>Below fX.drew.heap.size fX.drew W) (fun _=>True)) mix ?_;generalize fX.drew=qp at *;have hS:∀ (l:Array Bool) W,Below qp.heap.size qp W→Rg.aH 10 (fun W=>Below qp.heap.size qp W) (fun _=>True) l W:=fun l W h=>⟨.inr h,trivial⟩;have dF:∀ (l:Array Bool) W,l.getD 10 false=true→Rg.aH 10 (fun W=>Below qp.heap.size qp W) (fun _=>True) l W:=fun l W h=>⟨.inl h,trivial⟩
     have hI:Below qp.heap.size qp qp:=Below.refl _ _
     refine c8 0 10 (.pointer (some ⟨L,i*194,none⟩)) 56 (hS _ _ hI)<|c8 1 10 (.int .i64 ((q:Nat):Int)) 57 (hS _ _ hI)<|c7 2 10 (.pointer (some ⟨L,i*194,none⟩)) 58 rfl rfl (g7 fun w=>aY _ rfl rfl) (hS _ _ hI)<|c7 3 10 (.pointer (some ⟨L,i*194+130,none⟩)) 59 rfl rfl (g7 fun w=>aA _ rfl rfl (BW _ _ _)) (hS _ _ hI)<|c7 4 10 (.pointer (some ⟨L,i*194+130+q,none⟩)) 60 rfl rfl (g7 fun w=>bp _ _ rfl Tryz.underlying128 KP L (i*194+130) (q) rfl rfl jt) (hS _ _ hI) ?_;go_frame
     refine f9 5 10 (.int .i64 ((tr:Nat):Int)) 61 rfl rfl (g6 ⟨L,i*194+130+q,none⟩ (fun W hW=>af ((Below.cell (p:=⟨L,i*194+130+q,none⟩) hW CT.out.lt).trans CT.out.cell))) (hS _ _ hI)<|c7 6 10 (.int .i64 (((tr+1):Nat):Int)) 62 rfl rfl (g7 fun w=>cC (R:=.int .i64 (((tr+1):Nat):Int)) .add _ _ _ rfl rfl rfl (bI _ (by omega) (by omega))) (hS _ _ hI)<|c7 7 10 (.pointer (some ⟨L,i*194,none⟩)) 63 rfl rfl (g7 fun w=>aY _ rfl rfl) (hS _ _ hI)<|c7 8 10 (.pointer (some ⟨L,i*194+130,none⟩)) 64 rfl rfl (g7 fun w=>aA _ rfl rfl (BW _ _ _)) (hS _ _ hI)<|c7 9 10 (.pointer (some ⟨L,i*194+130+q,none⟩)) 65 rfl rfl (g7 fun w=>bp _ _ rfl Tryz.underlying128 KP L (i*194+130) (q) rfl rfl jt) (hS _ _ hI) ?_;go_frame
     refine Rg.Any.one (i:=10) (by kernel_rfl) (Rg.Any.fl none rfl rfl rfl (Rg.az _ _ _ rfl _ rfl _ rfl (ee _ CT.out.cell (HT.out.frozen _))) (dF _ _ rfl) ?_);go_frame;have Vk:=HT.out.tick aB jt (o:=i*194+130+q) (by omega);rw [← dx.out] at Vk;refine Rg.Any.done (by kernel_rfl) ?_ _;clear dF;clear hS hI;obtain ⟨Vl,Jk⟩:=Vk;have dZ:=KG.v8 (KG.refl HT.out.gB) Jk;generalize qp.setCell ⟨L,i*194+130+q,none⟩ (.int .i64 ((tr+1:Nat):Int))=Lo at *;replace HT:=ι Vl;replace C0:=ι (C0.out.kg dZ);replace C1:=ι (C1.out.kg dZ);replace SP:=ι (SP.out.kg dZ);replace K:=ι (K.out.trans dZ);clear dZ Jk Vl CT CG CS
     have Qp:Cm.bX (Cm.tick T2 i q) i q=some uq:=by show (Cm.tick T2 i q i).rep q=some uq; rw [Cm.dV]; exact Ln.out
     obtain ⟨ub,uo,uc,Cb,Cc⟩:=HT.out.OP aB jt Qp GU.out aZ;have UP:=ι Cc;have CU:=ι (CL.mk (show Lo.cell? ⟨L,i*194+2+q,none⟩=some (.slice (some ⟨ub,uo,none⟩) n uc) by rw [ql HT.out aB jt (by omega),Cb]) HT.out.lt);clear Qp Cb Cc;go_upto_region 8 with fail
     refine b6<|i6 rfl<|i4 rfl<|i8 (aY _ rfl rfl)<|i8 (g8 (uw _ _ _)) ?_;go_frame
     refine i8 (bp _ _ rfl Tryz.underlying127 rM L (i*194+2) (q) rfl rfl jt)<|i8 (d8 (.slice (some ⟨ub,uo,none⟩) n uc) ⟨L,i*194+2+q,none⟩ (Rg.ae _ _ Tryz.underlying26 CU.out.cell))<|i5 rfl ?_;go_frame
     refine d4 73 (aD 110 _ _ _ rfl rfl rfl (Ak _ _)) ?_;refine (rR UP.out SP.out GU.out GS.out aZ bn).mono ?_;rintro e1 lX ⟨yv,rfl,OV,hb⟩;obtain ⟨yb,yo,yc,rfl⟩:=OV.eC GY.out aZ;refine ⟨_,rfl,?_⟩;go_frame;replace HT:=ι (HT.out.up hb);replace C0:=ι (C0.out.up hb);replace C1:=ι (C1.out.up hb);replace SP:=ι (SP.out.up hb);replace UP:=ι (UP.out.up hb);replace CU:=ι (CU.out.up hb);replace K:=ι (K.out.up hb);have YF:=ι OV;have CY:=ι (show CF _ _ yb (yo+i) (.int .i64 ((p:Nat):Int)) by rw [← Vj.out]; exact OV.ap GY.out aB);generalize cx F3 Lo lX=F4 at *;clear hb;refine i5 rfl ?_;go_frame;clear OV;go_upto_region 9 with fail
     refine b6<|i5 rfl<|i4 rfl<|i8 (ag bK _ _ rfl yb (yo) (n) yc (i) rfl rfl aB)<|i8 (d8 (.int .i64 ((p:Nat):Int)) ⟨yb,yo+i,none⟩ (af CY.out.cell)) ?_;go_frame
     refine i4 rfl ?_;go_frame
     cases ED:(T2 i).rep p with
     | none =>
      have uP:(Cm.tick T2 i q i).rep p=none:=by rw [Cm.dV]; exact ED
      have Vm:=((HT.out.lv i aB).none_ p jw uP).1;have CP:=ι (CL.mk (show lX.cell? ⟨L,i*194+2+p,none⟩=some (.slice none 0 0) by rw [ql HT.out aB jw (by omega),Vm]) HT.out.lt);have Lp:=ι ED;clear uP Vm ED CU SP UP;go_upto_region 10 with fail
      refine b6<|i6 rfl<|i4 rfl<|i8 (aY _ rfl rfl)<|i8 (g8 (uw _ _ _)) ?_;go_frame
      refine i8 (bp _ _ rfl Tryz.underlying127 rM L (i*194+2) (p) rfl rfl jw)<|i8 (d8 (.slice none 0 0) ⟨L,i*194+2+p,none⟩ (Rg.ae _ _ Tryz.underlying26 CP.out.cell))<|i8 (qm _ _ rfl rfl rfl) ?_;go_frame
      clear CP;go_upto_region 11 with fail;have aw:Below lX.heap.size lX lX.drew:=(Below.refl _ _).drew;replace HT:=ι (HT.out.up aw);replace C0:=ι (C0.out.up aw);replace C1:=ι (C1.out.up aw);replace YF:=ι (YF.out.up aw);replace K:=ι (K.out.up aw);generalize cx F4 lX lX.drew=F5 at *;clear aw;refine Rg.Any.begin (S:=Rg.aH 10 (fun W=>Below lX.drew.heap.size lX.drew W) (fun _=>True)) mix ?_;generalize lX.drew=rT at *;have hS:∀ (l:Array Bool) W,Below rT.heap.size rT W→Rg.aH 10 (fun W=>Below rT.heap.size rT W) (fun _=>True) l W:=fun l W h=>⟨.inr h,trivial⟩;have dF:∀ (l:Array Bool) W,l.getD 10 false=true→Rg.aH 10 (fun W=>Below rT.heap.size rT W) (fun _=>True) l W:=fun l W h=>⟨.inl h,trivial⟩;have hI:Below rT.heap.size rT rT:=Below.refl _ _
      refine c8 0 10 (.pointer (some ⟨L,i*194,none⟩)) 85 (hS _ _ hI)<|c8 1 10 (.int .i64 ((p:Nat):Int)) 86 (hS _ _ hI)<|c8 2 10 (.pointer (some ⟨L,i*194,none⟩)) 87 (hS _ _ hI)<|c8 3 10 (.int .i64 ((p:Nat):Int)) 88 (hS _ _ hI)<|c8 4 10 (.slice (some ⟨yb,yo,none⟩) n yc) 89 (hS _ _ hI) ?_;go_frame
      refine c8 5 10 (.slice (some ⟨yb,yo,none⟩) n yc) 90 (hS _ _ hI)<|c7 7 10 (.pointer (some ⟨L,i*194,none⟩)) 92 rfl rfl (g7 fun w=>aY _ rfl rfl) (hS _ _ hI)<|c7 8 10 (.pointer (some ⟨L,i*194+2,none⟩)) 93 rfl rfl (g7 fun w=>aA _ rfl rfl (uw _ _ _)) (hS _ _ hI)<|c7 11 10 (.pointer (some ⟨L,i*194,none⟩)) 95 rfl rfl (g7 fun w=>aY _ rfl rfl) (hS _ _ hI)<|c7 12 10 (.pointer (some ⟨L,i*194+66,none⟩)) 96 rfl rfl (g7 fun w=>aA _ rfl rfl (zn _ _ _)) (hS _ _ hI) ?_;go_frame
      refine Rg.Any.one (i:=6) (by kernel_rfl) (Rg.Any.ask (some 91) rfl rfl rfl _ _ (aq 124 _ _ rfl rfl (Re _ _)) ?_);refine (Lc YF.out GY.out aZ bn).mono ?_;rintro e1 Lq ⟨iv,rfl,uU,hb⟩;obtain ⟨jb,jo,jc,rfl⟩:=uU.eC (Cm.aW GY.out) aZ;have dg:=Rg.acc hI hb;clear hI;replace HT:=ι (HT.out.up hb);replace C0:=ι (C0.out.up hb);replace C1:=ι (C1.out.up hb);replace YF:=ι (YF.out.up hb);replace K:=ι (K.out.up hb);have IF:=ι uU;generalize cx F5 rT Lq=F6 at *;clear hb;refine ⟨_,rfl,(hS _ _ dg),?_⟩;go_frame;refine c7 9 10 (.pointer (some ⟨L,i*194+2+p,none⟩)) 94 rfl rfl (g7 fun w=>bp _ _ rfl Tryz.underlying127 rM L (i*194+2) (p) rfl rfl jw) (hS _ _ dg) ?_;go_frame;refine Rg.Any.one (i:=10) (by kernel_rfl) (Rg.Any.fl none rfl rfl rfl (Rg.az _ _ _ rfl _ rfl _ rfl (Rg.cn _ gW (ql HT.out aB jw (by omega)) (HT.out.frozen _))) (dF _ _ rfl) ?_)
      go_frame;refine c7 13 10 (.pointer (some ⟨L,i*194+66+p,none⟩)) 97 rfl rfl (g7 fun w=>bp _ _ rfl Tryz.underlying127 rM L (i*194+66) (p) rfl rfl jw) (dF _ _ rfl) ?_;go_frame;have dA:=HT.out.row.set (i*194+2+p) (.slice (some ⟨yb,yo,none⟩) n yc);refine Rg.Any.one (i:=14) (by kernel_rfl) (Rg.Any.fl none rfl rfl rfl (Rg.az _ _ _ rfl _ rfl _ rfl (Rg.cn _ gW (dA.cell (by omega)) (dA.frozen _))) (dF _ _ rfl) ?_);go_frame;clear dA;refine Rg.Any.done (by kernel_rfl) ?_ _;clear dF;clear hS dg;obtain ⟨V4,EE,Lr⟩:=HT.out.iZ aB jw (o1:=i*194+2+p) (o2:=i*194+66+p) (by omega) (by omega) YF.out IF.out;have dZ:=KG.v8 (KG.refl HT.out.gB) Lr;generalize (Lq.setCell ⟨L,i*194+2+p,none⟩ (.slice (some ⟨yb,yo,none⟩) n yc)).setCell ⟨L,i*194+66+p,none⟩ (.slice (some ⟨jb,jo,none⟩) n jc)=Rh at *
      replace C0:=ι (C0.out.kg dZ);replace C1:=ι (C1.out.kg dZ);replace K:=ι (K.out.trans dZ);clear dZ Lr;obtain ⟨T4,Rl⟩:∃ T4,Hid (T4=iZ (Cm.tick T2 i q) i p (Ma.aj uq s)):=⟨_,ι rfl⟩;rw [← Rl.out] at EE;replace HT:=ι EE
      have ho4:(T4 i).orb.length≤n:=by
       have e:(T4 i).orb=(T2 i).orb:=by rw [Rl.out]; simp [iZ,Cm.dV]
       rw [e]; exact oM
      obtain ⟨oa,oc,lW⟩:=HT.out.nU aB;have CO:=ι (CL.mk (show Rh.cell? ⟨L,i*194+1,none⟩=some (.slice oa (T4 i).orb.length oc) by rw [ur HT.out aB rfl,lW]) HT.out.lt);obtain ⟨a9,c9,X9,r1,r2,r3,V5,r4,r5⟩:=HT.out.U9 aB (o:=i*194+1) rfl p (by omega) 25;rw [lW] at r1 r2;clear EE lW IF YF;go_upto_region 12 with fail
      refine b6<|i6 rfl<|i6 rfl<|i8 (aY _ rfl rfl)<|i8 (g8 (zm _ _ _)) ?_;go_frame
      refine i8 (d8 (.slice oa (T4 i).orb.length oc) ⟨L,i*194+1,none⟩ (Rg.ae _ _ Tryz.underlying25 CO.out.cell))<|i4 rfl<|i8 (Rg.aC _ _ _ rfl (.int .i64 ((p:Nat):Int)) rfl (kt Rh _))<|i8 (Rg.aP _ _ _ rfl rfl rfl r1)<|i8 (aY _ rfl rfl) ?_;go_frame
      refine i8 (g8 (zm _ _ _))<|Rg.aF none rfl rfl (Rg.az _ _ _ rfl _ rfl _ rfl (Rg.cn _ pJ r2 r3)) ?_;go_frame
      clear CO r1 r2 r3;have dZ:=KG.v8 (KG.refl HT.out.gB) r5;generalize X9.setCell ⟨L,i*194+1,none⟩ (.slice a9 ((T4 i).orb.length+1) c9)=YS at *;replace C0:=ι (C0.out.kg dZ);replace C1:=ι (C1.out.kg dZ);replace K:=ι (K.out.trans dZ);rw [Rl.out,← find_eq] at r4;have hf:=ju.found HI.out HD.out aB (q:=q) (s:=s) (uq:=uq) (by rw [← dx.out,← yu.out]; exact Lm.out) (by obtain ⟨a,b⟩:=hs.out; simp only [← dx.out]; exact b) Ln.out (by rw [← hp.out]; exact Lp.out) B_.out;have hx:=EC.out.trans ((Cm.jG T2 i q).trans (Cm.tB (T:=Cm.tick T2 i q) (p:=p) (y:=Ma.aj uq s) (by rw [Cm.dV]; exact Lp.out)));rw [← hp.out] at hf;obtain ⟨uV,Cd,Ce,Cf,Cg⟩:=hf;replace HT:=ι r4;have Ls:=ι uV;have Lt:=ι Cd;have Lu:=ι Cg;have HX:=ι hx;have Lw:=ι (show (gk - 1)+(Cm.find (Cm.tick T2 i q) i p (Ma.aj uq s) i).tried q=(Cm.find (Cm.tick T2 i q) i p (Ma.aj uq s) i).gens.length by have h1:=HN.out; have h2:=Jj.out; rw [Ce,Cf]; omega)
      clear uV Cd Ce Cf Cg hx dZ r4 r5;go_wp2
      go_roundg (gk - 1)
      case rel=>exact ⟨_,_,V5,Lw,HT,C0,C1,K,Ls,Lt,Lu,HX⟩
      case measure=>have:=Jj.out; omega
     | some v =>
      have uP:bX (Cm.tick T2 i q) i p=some v:=by show (Cm.tick T2 i q i).rep p=some v; rw [Cm.dV]; exact ED
      obtain ⟨Rm,GV,_,GX,FX,RX⟩:=Le HI.out.lvl aB rL.out Ln.out (show (T2 i).rep (Cm.ap s q)=some v by rw [← hp.out]; exact ED);replace GV:=ι GV;replace GX:=ι GX;replace FX:=ι FX;replace RX:=ι RX;obtain ⟨vb,vo,vc,Vn,_⟩:=HT.out.OP aB jw uP GV.out aZ;obtain ⟨zb,zo,zc,Vo,Vp⟩:=HT.out.U_ aB jw uP GV.out aZ;have CP:=ι (CL.mk (show lX.cell? ⟨L,i*194+2+p,none⟩=some (.slice (some ⟨vb,vo,none⟩) n vc) by rw [ql HT.out aB jw (by omega),Vn]) HT.out.lt);have CB:=ι (CL.mk (show lX.cell? ⟨L,i*194+66+p,none⟩=some (.slice (some ⟨zb,zo,none⟩) n zc) by rw [Ez HT.out aB jw (by omega),Vo]) HT.out.lt);have BP:=ι Vp;have Lp:=ι ED;clear uP Vn Vo Vp Rm ED CU SP UP
      by_cases sZ:i+1<n
      ·have rU:=ι (show ∀ j,i+1≤j→j<n→Full n (Cm.tick T2 i q) j from fun j h1 h2=>(HI.out.up j (by omega) h2).ext (Cm.jG T2 i q) (Cm.iA (by omega)) (fun _=>Cm.iA (by omega)))
       have bw:=ι sZ
       have uS:((i+1:Nat):Int)<(n:Int):=by omega
       go_upto_region 10 with fail
       refine b6<|i6 rfl<|i4 rfl<|i8 (aY _ rfl rfl)<|i8 (g8 (uw _ _ _)) ?_;go_frame
       refine i8 (bp _ _ rfl Tryz.underlying127 rM L (i*194+2) (p) rfl rfl jw)<|i8 (d8 (.slice (some ⟨vb,vo,none⟩) n vc) ⟨L,i*194+2+p,none⟩ (Rg.ae _ _ Tryz.underlying26 CP.out.cell))<|i8 (jJ _ _ rfl rfl rfl) ?_;go_frame
       go_upto_region 13 with fail
       refine b6<|i4 rfl<|i8 (d9 (.int .i64 (((i+1):Nat):Int)) .add (h:=bI _ (by omega) (by omega)))<|i6 rfl<|i8 (aY _ rfl rfl) ?_;go_frame
       refine i8 (g8 (wj _ _))<|i8 (d8 (.int .i64 ((n:Nat):Int)) ⟨tb,0,none⟩ (af C0.out.cell))<|i8 (d9 (.bool true) .lss (h:=aL _ d5)) ?_;go_frame
       go_upto_region 14 with fail
       refine b6<|i6 rfl<|i5 rfl<|i6 rfl<|i4 rfl ?_;go_frame
       refine i8 (aY _ rfl rfl)<|i8 (g8 (zn _ _ _))<|i8 (bp _ _ rfl Tryz.underlying127 rM L (i*194+66) (p) rfl rfl jw)<|i8 (d8 (.slice (some ⟨zb,zo,none⟩) n zc) ⟨L,i*194+66+p,none⟩ (Rg.ae _ _ Tryz.underlying26 CB.out.cell)) ?_;go_frame
       refine d4 123 (aD 110 _ _ _ rfl rfl rfl (Ak _ _)) ?_;refine (rR YF.out BP.out GY.out (Cm.aW GV.out) aZ bn).mono ?_;rintro e1 rT ⟨mv,rfl,dL,hb⟩;refine ⟨_,rfl,?_⟩;go_frame;replace HT:=ι (HT.out.up hb);replace C0:=ι (C0.out.up hb);replace C1:=ι (C1.out.up hb);replace YF:=ι (YF.out.up hb);replace CY:=ι (CY.out.up hb);replace CP:=ι (CP.out.up hb);replace CB:=ι (CB.out.up hb);replace BP:=ι (BP.out.up hb);replace K:=ι (K.out.up hb);have MV:=ι dL;generalize cx F4 lX rT=F5 at *;clear hb
       refine i4 rfl<|i8 (d9 (.int .i64 (((i+1):Nat):Int)) .add (h:=bI _ (by omega) (by omega))) ?_;go_frame
       refine d4 126 (dN 84 _ _ _ _ rfl rfl rfl rfl (Lg _ _)) ?_;refine (Li.out bw.out _ L tb _ _ _ _ _ HT.out C0.out C1.out MV.out GX.out FX.out rU.out).mono ?_;rintro e1 Lq ⟨F9,T9,V9,rfl,iI,Ch,Ly⟩;have HA:=ι Ly;clear Ly;refine ⟨_,rfl,?_⟩;go_frame;clear CP;clear CB;clear CY;clear YF;clear BP;replace HT:=ι Ch;replace C0:=ι (C0.out.kg iI);replace C1:=ι (C1.out.kg iI);replace MV:=ι (MV.out.kg iI);replace K:=ι (K.out.trans iI);clear iI Ch;have hf:=ju.Ia HI.out HD.out (q:=q) (s:=s) (uq:=uq) (v:=v) (by rw [← dx.out,← yu.out]; exact Lm.out) (by obtain ⟨a,b⟩:=hs.out; simp only [← dx.out]; exact b) Ln.out (by rw [← hp.out]; exact Lp.out) B_.out HA.out.ext HA.out.low (fun j h1 h2=>HA.out.full j h1 h2) (fun h0=>HA.out.gens _ (Gr.fW HI.out.lvl.yk) (fun s hs=>HI.out.lvl.low h0 s (by rwa [Cm.iA (by omega)] at hs)) RX.out) HA.out.sd
       have hx:=EC.out.trans ((Cm.jG T2 i q).trans HA.out.ext);obtain ⟨uV,Cd,Ce,Cf,Cg⟩:=hf;have Ls:=ι uV;have Lt:=ι Cd;have Lu:=ι Cg;have HX:=ι hx;have Lw:=ι (show (gk - 1)+(T9 i).tried q=(T9 i).gens.length by have h1:=HN.out; have h2:=Jj.out; rw [Ce,Cf]; omega);clear uV Cd Ce Cf Cg hx;go_wp2
       go_roundg (gk - 1)
       case rel=>exact ⟨_,_,_,Lw,HT,C0,C1,K,Ls,Lt,Lu,HX⟩
       case measure=>have:=Jj.out; omega
      ·have uS:¬ ((i+1:Nat):Int)<(n:Int):=by omega
       go_upto_region 10 with fail
       refine b6<|i6 rfl<|i4 rfl<|i8 (aY _ rfl rfl)<|i8 (g8 (uw _ _ _)) ?_;go_frame
       refine i8 (bp _ _ rfl Tryz.underlying127 rM L (i*194+2) (p) rfl rfl jw)<|i8 (d8 (.slice (some ⟨vb,vo,none⟩) n vc) ⟨L,i*194+2+p,none⟩ (Rg.ae _ _ Tryz.underlying26 CP.out.cell))<|i8 (jJ _ _ rfl rfl rfl) ?_;go_frame
       go_upto_region 13 with fail
       refine b6<|i4 rfl<|i8 (d9 (.int .i64 (((i+1):Nat):Int)) .add (h:=bI _ (by omega) (by omega)))<|i6 rfl<|i8 (aY _ rfl rfl) ?_;go_frame
       refine i8 (g8 (wj _ _))<|i8 (d8 (.int .i64 ((n:Nat):Int)) ⟨tb,0,none⟩ (af C0.out.cell))<|i8 (d9 (.bool false) .lss (h:=aL _ d6)) ?_;go_frame
       have hf:=ju.Ia (T4:=Cm.tick T2 i q) HI.out HD.out (q:=q) (s:=s) (uq:=uq) (v:=v) (by rw [← dx.out,← yu.out]; exact Lm.out) (by obtain ⟨a,b⟩:=hs.out; simp only [← dx.out]; exact b) Ln.out (by rw [← hp.out]; exact Lp.out) B_.out (Ext.refl _) (fun _ _=>rfl) (fun j h1 h2=>absurd h2 (by omega)) (fun h0=>absurd h0 sZ) (by rw [show n - (i+1)=0 by omega]; exact Cm.Fx.all GX.out (by have:=FX.out; rwa [show i+1=n by omega] at this));have hx:=EC.out.trans (Cm.jG T2 i q);obtain ⟨uV,Cd,Ce,Cf,Cg⟩:=hf;have Ls:=ι uV;have Lt:=ι Cd;have Lu:=ι Cg;have HX:=ι hx;have Lw:=ι (show (gk - 1)+((Cm.tick T2 i q) i).tried q=((Cm.tick T2 i q) i).gens.length by have h1:=HN.out; have h2:=Jj.out; rw [Ce,Cf]; omega);clear uV Cd Ce Cf Cg hx;go_wp2
       go_roundg (gk - 1)
       case rel=>exact ⟨_,_,_,Lw,HT,C0,C1,K,Ls,Lt,Lu,HX⟩
       case measure=>have:=Jj.out; omega
  ·have HE:k=(T1 i).orb.length:=by omega
   obtain ⟨oa,oc,lW⟩:=HT.out.nU aB
   have Lj:wr.cell? ⟨L,i*194+1,none⟩=some (.slice oa (T1 i).orb.length oc):=by rw [ur HT.out aB (by omega),lW]
   have iH:¬ (k:Int)<((T1 i).orb.length:Int):=by omega
   have Rf:=ι (lL.cmp (by rw [← HE]; exact HD.out) HI.out.lvl);clear lW HE;go_wp2
   go_end0
   exact ⟨rfl,F1,K.out,T1,⟨V,HT.out⟩,HI.out,Rf.out⟩

theorem Rn (args:Array Value) (w:World):(callFunc 105 args).run Tryz.prog w=.ok (.enter 105 args) w:=by kernel_rfl
theorem Ro (args:Array Value) (w:World):(callFunc 106 args).run Tryz.prog w=.ok (.enter 106 args) w:=by kernel_rfl
theorem gO:(Tryz.prog.info? 22).map (fun i=>(i.zero,i.size,i.bytes))=some (some (.slice none 0 0),1,24):=by kernel_rfl
def oN (T:bf) (i j:Nat) (r:List Nat):bf:=fun k=>if i≤k∧k<j then { T k with gens:=(T k).gens++[r] } else T k
theorem EF (T:bf) (i:Nat) (r:List Nat):oN T i i r=T:=by
 funext k; unfold oN; rw [if_neg (by omega)]
theorem rV (T:bf) (i j:Nat) (r:List Nat):oN T i j r j=T j:=by
 unfold oN; rw [if_neg (by omega)]
theorem EG (T:bf) (i j:Nat) (r:List Nat) (h:i≤j):tC (oN T i j r) j r=oN T i (j+1) r:=by
 funext k
 unfold tC
 by_cases e:k=j
 ·subst e
  rw [if_pos rfl,rV]; unfold oN; rw [if_pos (by omega)]
 ·rw [if_neg e]; unfold oN
  by_cases h2:i≤k∧k<j
  ·rw [if_pos h2,if_pos (by omega)]
  ·rw [if_neg h2,if_neg (by omega)]
theorem Jl (T:bf) (i a:Nat) (r:List Nat):oN T i (a+1) r=Cm.gL T i a r:=by
 funext k
 unfold oN Cm.gL
 by_cases h:i≤k∧k≤a
 ·rw [if_pos (by omega),if_pos h]
 ·rw [if_neg (by omega),if_neg h]
open Go.Proofs.Cm in
theorem Lz {i:Nat} (aZ:1≤n) (bn:n≤64) (aB:i<n) (yw:∀ k,i≤k→k<n→vB n k):Lh n i:=by
 intro F L tb w T V xv x hT cr eJ hx gx fx EH;have K:=ι (KG.refl hT.gB);have HT:=ι hT;have C0:=ι cr;have C1:=ι eJ;have X:=ι hx;have GX:=ι gx;have FX:=ι fx;have rU:=ι EH;have YT:=ι yw;have HR:=ι (fC.rp fun j a b=>(EH j a b).1);obtain ⟨lY,r,hA⟩:∃ a r,Hid (cS n (bX T) (n - i) x=(a,r)):=⟨_,_,ι rfl⟩;obtain ⟨s_,tG,gr,fr,lC⟩:=mE HR.out (d:=n - i) (x:=x) (by omega) (by omega) gx (by rw [show n - (n - i)=i by omega]; exact fx);rw [hA.out] at s_ tG gr fr lC;have GR:=ι gr;have FR:=ι fr;have Ci:=ι lC;replace s_:lY≤n:=s_
 replace tG:i≤lY:=by have:n - (n - i)≤lY:=tG; omega
 clear hT cr eJ hx gx fx EH yw gr fr lC
 go_enter Tryz.func84,Tryz.ntmps84
 go_upto_region 0 with fail
 refine b6<|i6 rfl<|i3 (xv) rfl<|i4 rfl ?_;go_frame
 have hsc:=Jf HT.out C0.out C1.out aZ bn X.out GX.out (by omega) FX.out HR.out;rw [hA.out] at hsc
 dsimp only at hsc
 refine d4 14 (dN 105 _ _ _ _ rfl rfl rfl rfl (Rn _ _)) ?_;refine (hsc).mono ?_;rintro e1 w1 ⟨F1,rv,rfl,iG,wk,dA,cV⟩;clear hsc cV;refine ⟨_,rfl,?_⟩;go_frame;replace HT:=ι wk;replace C0:=ι (C0.out.kg iG);replace C1:=ι (C1.out.kg iG);replace X:=ι (X.out.kg iG);replace K:=ι (K.out.trans iG);have R:=ι dA;clear iG wk
 refine i3 (.tuple #[.int .i64 ((lY:Nat):Int),rv]) rfl<|i8 (f8 (.int .i64 ((lY:Nat):Int)))<|i8 (f8 (rv))<|i4 rfl<|i3 (rv) rfl ?_;go_frame
 clear dA X
 by_cases YX:lY=n
 ·have YY:(lY:Int)=(n:Int):=by omega
  go_upto_region 1 with fail
  refine b6<|i4 rfl<|i6 rfl<|i8 (aY _ rfl rfl)<|i8 (g8 (wj _ _)) ?_;go_frame
  refine i8 (d8 (.int .i64 ((n:Nat):Int)) ⟨tb,0,none⟩ (af C0.out.cell))<|i8 (d9 (.bool true) .eql (h:=cJ _ d5)) ?_;go_frame
  have HA:=ι (tE.same rU.out aB GX.out FX.out (by rw [hA.out]; exact YX));go_wp2
  first
  | go_end0
  | refine bodyPost_ret (results_none rfl _ _ _) rfl ?_
  exact ⟨rfl,_,K.out,T,⟨V,HT.out⟩,HA.out⟩
 ·have YY:¬ (lY:Int)=(n:Int):=by omega
  have Ib:lY<n:=by omega
  go_upto_region 1 with fail
  refine b6<|i4 rfl<|i6 rfl<|i8 (aY _ rfl rfl)<|i8 (g8 (wj _ _)) ?_;go_frame
  refine i8 (d8 (.int .i64 ((n:Nat):Int)) ⟨tb,0,none⟩ (af C0.out.cell))<|i8 (d9 (.bool false) .eql (h:=cJ _ d6)) ?_;go_frame
  have rS:=C0.out.cell;go_upto_region 2 with fail;go_wp2
  go_loopw [8] (fun iv wr=>∃ (j:Nat) (F2:Nat→Prop) (V2:Nat→LV),iv=.int .i64 j∧i≤j∧j≤lY+1∧Hid (aV F2 L n wr (oN T i j r) V2)∧Hid (CF F2 wr tb 0 (.int .i64 ((n:Nat):Int)))∧Hid (CF F2 wr tb 1 (.slice (some ⟨L,0,none⟩) n n))∧Hid (KG F w F2 wr)∧Hid (FP F2 wr rv r)) (fun iv _=>lY+1 - (intOf iv).toNat)
  case atStart=>exact ⟨i,_,V,rfl,Nat.le_refl _,by omega,ι (by rw [EF]; exact HT.out),C0,C1,K,R⟩
  case round =>
   clear HT C0 C1 K R rS;obtain ⟨j,F2,V2,rfl,Ab,mA,HT,C0,C1,K,R⟩:=hrel
   by_cases YZ:j≤lY
   ·have Jn:(j:Int)≤(lY:Int):=by omega
    have Jo:j<n:=by omega
    obtain ⟨rb,ro,rc,rfl⟩:=R.out.eC GR.out aZ;have dm:=HT.out.Qk Jo;rw [rV] at dm;obtain ⟨ga,gc,Ca⟩:=dm;have CG:=ι (CL.mk (show wr.cell? ⟨L,j*194,none⟩=some (.slice ga (T j).gens.length gc) by rw [La HT.out Jo rfl,Ca]) HT.out.lt);have kz:(T j).gens.length≤4096:=Nat.le_trans (rU.out j Ab Jo).2.2 (H9 (fun j a b=>(rU.out j a b).1) Ab bn);go_upto_region 5 with fail;have aw:Below wr.heap.size wr wr.drew:=(Below.refl _ _).drew;replace HT:=ι (HT.out.up aw);replace C0:=ι (C0.out.up aw);replace C1:=ι (C1.out.up aw);replace R:=ι (R.out.up aw);replace CG:=ι (CG.out.up aw);replace K:=ι (K.out.up aw);generalize cx F2 wr wr.drew=F1 at *;clear aw;refine Rg.Any.begin (S:=Rg.aH 16 (fun W:World=>W.cell? ⟨tb,1,none⟩=some (.slice (some ⟨L,0,none⟩) n n)∧W.cell? ⟨L,j*194,none⟩=some (.slice ga (T j).gens.length gc)) (fun _=>True)) mix ?_
    generalize wr.drew=ew at *;have hS:∀ (l:Array Bool) W,(fun W:World=>W.cell? ⟨tb,1,none⟩=some (.slice (some ⟨L,0,none⟩) n n)∧W.cell? ⟨L,j*194,none⟩=some (.slice ga (T j).gens.length gc)) W→Rg.aH 16 (fun W:World=>W.cell? ⟨tb,1,none⟩=some (.slice (some ⟨L,0,none⟩) n n)∧W.cell? ⟨L,j*194,none⟩=some (.slice ga (T j).gens.length gc)) (fun _=>True) l W:=fun l W h=>⟨.inr h,trivial⟩;have dF:∀ (l:Array Bool) W,l.getD 16 false=true→Rg.aH 16 (fun W:World=>W.cell? ⟨tb,1,none⟩=some (.slice (some ⟨L,0,none⟩) n n)∧W.cell? ⟨L,j*194,none⟩=some (.slice ga (T j).gens.length gc)) (fun _=>True) l W:=fun l W h=>⟨.inl h,trivial⟩;have hI:(fun W:World=>W.cell? ⟨tb,1,none⟩=some (.slice (some ⟨L,0,none⟩) n n)∧W.cell? ⟨L,j*194,none⟩=some (.slice ga (T j).gens.length gc)) ew:=⟨C1.out.cell,CG.out.cell⟩
    refine c8 0 16 (.pointer (some ⟨tb,0,none⟩)) 29 (hS _ _ hI)<|c7 1 16 (.pointer (some ⟨tb,0,none⟩)) 30 rfl rfl (g7 fun w=>aY _ rfl rfl) (hS _ _ hI)<|c7 2 16 (.pointer (some ⟨tb,1,none⟩)) 31 rfl rfl (g7 fun w=>aA _ rfl rfl (jI _ _)) (hS _ _ hI)<|f9 3 16 (.slice (some ⟨L,0,none⟩) n n) 32 rfl rfl (g6 ⟨tb,1,none⟩ (fun W hW=>Rg.ae _ _ Tryz.underlying120 hW.1)) (hS _ _ hI)<|c8 4 16 (.int .i64 ((j:Nat):Int)) 33 (hS _ _ hI) ?_;go_frame
    refine c8 5 16 (.pointer (some ⟨tb,0,none⟩)) 34 (hS _ _ hI)<|c7 6 16 (.pointer (some ⟨tb,0,none⟩)) 35 rfl rfl (g7 fun w=>aY _ rfl rfl) (hS _ _ hI)<|c7 7 16 (.pointer (some ⟨tb,1,none⟩)) 36 rfl rfl (g7 fun w=>aA _ rfl rfl (jI _ _)) (hS _ _ hI)<|f9 8 16 (.slice (some ⟨L,0,none⟩) n n) 37 rfl rfl (g6 ⟨tb,1,none⟩ (fun W hW=>Rg.ae _ _ Tryz.underlying120 hW.1)) (hS _ _ hI)<|c8 9 16 (.int .i64 ((j:Nat):Int)) 38 (hS _ _ hI) ?_;go_frame
    refine c7 10 16 (.pointer (some ⟨L,j*194,none⟩)) 39 rfl rfl (g7 fun w=>cT _ _ rfl Tryz.underlying120 gN L (n) (n) (j) rfl rfl Jo) (hS _ _ hI)<|c7 11 16 (.pointer (some ⟨L,j*194,none⟩)) 40 rfl rfl (g7 fun w=>aA _ rfl rfl (BV _ _ _)) (hS _ _ hI)<|f9 12 16 (.slice ga (T j).gens.length gc) 41 rfl rfl (g6 ⟨L,j*194,none⟩ (fun W hW=>Rg.ae _ _ Tryz.underlying22 hW.2)) (hS _ _ hI)<|c8 13 16 (.slice (some ⟨rb,ro,none⟩) n rc) 42 (hS _ _ hI) ?_;go_frame
    have nZ:=(Below.refl ew.heap.size ew).alloc (Nat.le_refl _) (.cells #[.slice (some ⟨rb,ro,none⟩) n rc] 26);have Rq:=(show _∧_ from ⟨(Below.cell (p:=⟨tb,1,none⟩) nZ C1.out.lt).trans C1.out.cell,(Below.cell (p:=⟨L,j*194,none⟩) nZ CG.out.lt).trans CG.out.cell⟩);refine g5 14 43 rfl rfl (Rg.aC _ _ _ rfl (.slice (some ⟨rb,ro,none⟩) n rc) rfl (dI ew _ ⟨_,_,_,rfl⟩)) (hS _ _ Rq) ?_;go_frame;obtain ⟨a9,c9,X9,r1,r2,r3,V5,r4,r5⟩:=HT.out.U8 Jo (o:=j*194) rfl R.out ⟨_,_,_,rfl⟩ (by rw [rV]; omega) 22;rw [EG _ _ _ _ Ab] at r4;rw [rV] at r1 r4 r5;rw [Ca] at r1 r2;have LA:=r5.cell (b:=tb) (o:=1) C1.out.Jb C1.out.lt
    rw [World.cell?_setCell_other (h:=by intro e; injection e with e1 _; exact HT.out.LF (e1▸C1.out.Jb)),C1.out.cell] at LA
    have lZ:=(show _∧_ from ⟨LA,r2⟩)
    refine g5 15 44 rfl rfl (Rg.aP _ _ _ rfl rfl rfl r1) (hS _ _ lZ)<|g5 16 45 rfl rfl (cT _ _ rfl Tryz.underlying120 gN L (n) (n) (j) rfl rfl Jo) (dF _ _ rfl)<|c7 17 16 (.pointer (some ⟨L,j*194,none⟩)) 46 rfl rfl (g7 fun w=>aA _ rfl rfl (BV _ _ _)) (dF _ _ rfl) ?_;go_frame
    refine Rg.Any.one (i:=18) (by kernel_rfl) (Rg.Any.fl none rfl rfl rfl (Rg.az _ _ _ rfl _ rfl _ rfl (Rg.cn _ gO r2 r3)) (dF _ _ rfl) ?_);go_frame;refine Rg.Any.done (by kernel_rfl) ?_ _;clear dF;clear hS lZ;have dZ:=KG.v8 (KG.refl HT.out.gB) r5;generalize X9.setCell ⟨L,j*194,none⟩ (.slice a9 ((T j).gens.length+1) c9)=Lo at *;replace C0:=ι (C0.out.kg dZ);replace C1:=ι (C1.out.kg dZ);replace R:=ι (R.out.kg dZ);replace K:=ι (K.out.trans dZ);replace HT:=ι r4;clear dZ r1 r2 r3 r4 r5 CG Ca;go_wp2
    go_roundw
    case rel=>exact ⟨j+1,_,V5,by go_num,by omega,by omega,HT,C0,C1,K,R⟩
    case measure=>simp [intOf]; omega
   ·have Jn:¬ (j:Int)≤(lY:Int):=by omega
    obtain rfl:j=lY+1:=by omega
    replace HT:=ι (by have:=HT.out; rwa [Jl] at this);have HI:=ι (lM.start (r:=r) rU.out tG);go_wp2;simp only [show ((lY:Nat):Int)=(((lY+1:Nat):Int) - 1) by omega]
    go_loopw [9] (fun kv wr=>∃ (k:Nat) (F3:Nat→Prop) (T3:bf) (V3:Nat→LV),kv=.int .i64 (((k:Nat):Int) - 1)∧i≤k∧k≤lY+1∧Hid (aV F3 L n wr T3 V3)∧Hid (CF F3 wr tb 0 (.int .i64 ((n:Nat):Int)))∧Hid (CF F3 wr tb 1 (.slice (some ⟨L,0,none⟩) n n))∧Hid (KG F w F3 wr)∧Hid (lM n i lY k T T3 r)) (fun kv _=>(intOf kv+1).toNat - i)
    case atStart=>exact ⟨lY+1,F2,_,V2,rfl,by omega,Nat.le_refl _,HT,C0,C1,K,HI⟩
    case round =>
     clear HT C0 C1 K R HI Jn Ab mA YZ;obtain ⟨k0,F3,T3,V3,rfl,iG,fD,HT,C0,C1,K,HI⟩:=hrel
     by_cases my:i<k0
     ·obtain ⟨m,rfl⟩:∃ m,k0=m+1:=⟨k0 - 1,by omega⟩
      simp only [show (((m+1:Nat):Int) - 1)=(m:Int) by omega]
      have EJ:(i:Int)≤(m:Int):=by omega
      have LB:m<n:=by omega
      have Rs:=ι (HI.out.lvl rU.out (by omega) (by omega) Ib GR.out FR.out);have Jp:=ι HI.out.up
      have mJ:=ι (show (T3 m).gens.length≤5000 by
       have h1:=(rU.out m (by omega) LB).2.2;have h2:Af n T m≤4096:=H9 (fun j a b=>(rU.out j a b).1) (by omega) bn;rw [HI.out.put m (by omega) (by omega),iy ⟨by omega,by omega⟩]
       simp; omega)
      have Vq:=ι (show i≤m by omega);have Y0:=ι LB;have Y1:=ι (show m≤lY by omega);go_upto_region 9 with fail
      refine b6<|i6 rfl<|i4 rfl ?_;go_frame
      refine d4 55 (aD 106 _ _ _ rfl rfl rfl (Ro _ _)) ?_;refine (YT.out m Vq.out Y0.out _ L tb _ _ _ HT.out C0.out C1.out Jp.out Rs.out mJ.out).mono ?_;rintro e1 kA ⟨F9,T9,V9,rfl,iI,Ch,LA,Vr⟩;have Rt:=ι (HI.out.step rU.out Vq.out Y1.out Ib (Ci.out Ib) LA Vr);clear LA Vr;refine ⟨_,rfl,?_⟩;go_frame;replace HT:=ι Ch;replace C0:=ι (C0.out.kg iI);replace C1:=ι (C1.out.kg iI);replace K:=ι (K.out.trans iI);clear iI Ch;go_wp2
      go_roundw
      case rel=>exact ⟨m,_,T9,V9,by go_num,by omega,by omega,HT,C0,C1,K,Rt⟩
      case measure=>simp [intOf]; omega
     ·obtain rfl:k0=i:=by omega
      have EJ:¬ (k0:Int)≤((k0:Int) - 1):=by omega
      have tH:=ι (lM.added (i:=k0) rU.out aB GX.out FX.out (by rw [hA.out]; exact HI.out) (by rw [hA.out]; exact Ib));go_wp2
      go_end0
      exact ⟨rfl,F3,K.out,T3,⟨V3,HT.out⟩,tH.out⟩
end Go.Proofs.YtbngdgfmlmkgiaaGreat

namespace Go.Proofs.Cm
open Go.Proofs
def LC:Lv:={ gens:=[],orb:=[],rep:=fun _=>none,tried:=fun _=>0 }
def LD (n j:Nat):Lv:={ gens:=[],orb:=[j],rep:=fun z=>if z=j then some (Ma.aR n) else none,tried:=fun _=>0 }
def lN (n k:Nat):bf:=fun j=>if j<k then LD n j else LC
theorem EK (hj:j<n):Full n (lN n n) j:=by
 have e:lN n n j=LD n j:=if_pos hj
 have hr:∀ p u,(LD n j).rep p=some u→p=j∧u=Ma.aR n:=fun p u h=>by
  have h:(if p=j then some (Ma.aR n) else none)=some u:=h
  by_cases e:p=j
  ·rw [if_pos e] at h; injection h with h; exact ⟨e,h.symm⟩
  ·rw [if_neg e] at h; cases h
 refine ⟨⟨?_,?_,?_,?_,?_,?_,?_,?_,?_,?_,?_,?_,?_,?_⟩,?_,?_⟩ <;> (try rw [e])
 ·intro s hs; cases hs
 ·intro s hs; cases hs
 ·intro h0 s hs
  have e2:lN n n (j+1)=LD n (j+1):=if_pos h0;rw [e2] at hs; cases hs
 ·exact if_pos rfl
 ·intro p u h; obtain ⟨_,rfl⟩:=hr p u h; exact dX n
 ·intro p u h; obtain ⟨_,rfl⟩:=hr p u h; exact Fx.one (by omega)
 ·intro p u h; obtain ⟨rfl,rfl⟩:=hr p u h; exact dY hj
 ·intro p u h; obtain ⟨rfl,_⟩:=hr p u h; exact hj
 ·intro p u h; obtain ⟨_,rfl⟩:=hr p u h; exact .one
 ·exact List.nodup_cons.2 ⟨by simp,List.nodup_nil⟩
 ·intro p
  constructor
  ·intro h
   have h:p∈[j]:=h;rw [List.mem_singleton] at h; subst h;exact ⟨_,if_pos rfl⟩
  ·rintro ⟨u,h⟩
   obtain ⟨rfl,_⟩:=hr p u h;exact List.mem_singleton.2 rfl
 ·intro q; exact Nat.le_refl _
 ·intro p _; rfl
 ·intro q u k hk; exact absurd hk (Nat.not_lt_zero _)
 ·intro q u h; rw [e]; rfl
 ·exact Nat.zero_le _
structure j9 (n:Nat) (gs:List Nat→Prop) (T:bf):Prop where
 full:∀ j,j<n→Full n T j
 sub:∀ s∈(T 0).gens,Gr n gs s
 all:∀ s,gs s→Sd n (bX T) n s
theorem j9.new:j9 n (fun _=>False) (lN n n):=by
 refine ⟨fun j hj=>EK hj,fun s hs=>?_,fun s h=>absurd h id⟩;unfold lN at hs
 by_cases h:0<n
 ·rw [if_pos h] at hs; cases hs
 ·rw [if_neg h] at hs; cases hs
theorem j9.add {gs gs':List Nat→Prop} {T T':bf} {x:List Nat} (h:j9 n gs T) (hg:∀ s,gs' s↔gs s∨s=x) (cD:∀ s,gs' s→Gd n s) (ha:tE n 0 T T' x):j9 n gs' T':=by
 have hG:eI n (Gr n gs'):=Gr.fW cD;refine ⟨fun j hj=>ha.full j (Nat.zero_le _) hj,ha.gens _ hG (fun s hs=>Gr.sub hG (fun z hz=>.gen _ ((hg z).2 (.inl hz))) (h.sub s hs)) (.gen _ ((hg x).2 (.inr rfl))),fun s hs=>?_⟩
 rcases (hg s).1 hs with hs | rfl
 ·exact Sd.mono (fun j p u _ e=>ha.ext.rep j p u e) (h.all s hs)
 ·exact by have:=ha.sd; rwa [Nat.sub_zero] at this
theorem j9.H8 {n:Nat} {gs:List Nat→Prop} {T:bf} (h:j9 n gs T) (hn:0<n) (cD:∀ s,gs s→Gd n s):kn n (Gr n gs) (bX T):=by
 have hT:tx n 0 (fun i s=>s∈(T i).gens) (bX T):=fC.Q6 fun j _ b=>⟨(h.full j b).1,(h.full j b).2.1⟩;have h1:=hT.H8 hn;have g0:∀ s,s∈(T 0).gens→Gd n s:=(h.full 0 hn).1.yk
 have e:∀ x,Gr n gs x↔Gr n (fun s=>s∈(T 0).gens) x:=fun x=>by
  constructor
  ·intro hx
   refine Gr.sub (Gr.fW g0) (fun s hs=>?_) hx;exact hT.gr (i:=0) (Nat.le_refl _) hn (d:=n) (by omega) (cD s hs) (h.all s hs) (by omega)
  ·intro hx
   exact Gr.sub (Gr.fW cD) h.sub hx
 exact ⟨h1.rp,fun i p u hi hu=>(e u).2 (h1.mem i p u hi hu),fun i x hi hx=>h1.all i x hi ⟨(e x).1 hx.1,hx.2⟩⟩
end Go.Proofs.Cm

namespace Go.Proofs.YtbngdgfmlmkgiaaGreat
open Go.RowKit
open Go.Proofs
open Go.Proofs.Cm (Lv bf bX)
attribute [local irreducible] Go.Calls
theorem Cj {n:Nat} (aZ:1≤n) (bn:n≤64):∀ d i,n - i≤d→i<n→Lh n i∧∀ k,i≤k→k<n→vB n k
 | 0,i,hd,hi=>by omega
 | d+1,i,hd,hi=>by
  have ih:=Cj aZ bn d
  have hc:∀ k,i≤k→k<n→vB n k:=fun k h1 h2=>by
   by_cases e:k=i
   ·subst e
    exact EB aZ bn h2 fun h=>(ih (k+1) (by omega) h).1
   ·exact (ih (i+1) (by omega) (by omega)).2 k (by omega) h2
  exact ⟨Lz aZ bn hi hc,hc⟩
def tI:Array Value:=(Array.range 194).map (fun m=>if m<130 then Value.slice none 0 0 else .int .i64 0)
theorem EL:(Tryz.prog.info? 130).map (fun i=>(i.zero.map Value.cells,i.size,i.bytes))=some (some tI,194,3632):=by kernel_rfl
theorem OY (hm:m<194):tI[m]! = if m<130 then Value.slice none 0 0 else .int .i64 0:=by
 unfold tI;simp [hm]
theorem Jq (n:Nat) (hn:n≤1000000) (w:World):(Instr.makeSlice 120 (.int .i64 (n:Int)) (.int .i64 (n:Int))).run Tryz.prog w=.ok (.slice (some ⟨w.heap.size,0,none⟩) n n) (w.alloc (.cells (madeCells tI (n*194)) 130)):=by
 obtain ⟨i,hi,hz⟩:=Option.map_eq_some_iff.1 EL;simp only [Prod.mk.injEq] at hz;obtain ⟨h1,h2,h3⟩:=hz;obtain ⟨z,hz,h1⟩:=Option.map_eq_some_iff.1 h1;have hr:=run_make (P:=Tryz.prog) w 120 130 i z Tryz.underlying120 hi hz .i64 .i64 (n:Int) (n:Int) (by omega) (Int.le_refl _) (by rw [h3]; omega) (by omega);rw [hr,h2,h1];simp
def p3:LV:={ g:=.slice none 0 0,us:=[],o:=.slice none 0 0,t:=fun _=>.slice none 0 0,b:=fun _=>.slice none 0 0 }
theorem aV.start (n:Nat) (w:World) (hF:∀ k,F k→k<w.heap.size):aV F w.heap.size n (w.alloc (.cells (madeCells tI (n*194)) 130)) (Cm.lN n 0) (fun _=>p3):=by
 have hN:∀ j,Cm.lN n 0 j=Cm.LC:=fun j=>if_neg (Nat.not_lt_zero _);refine ⟨fun k hk=>by have:=hF k hk; simp; omega,fun h=>by have:=hF _ h; omega,?_,fun i hi=>?_,fun i j hi hj hne k h1 h2=>?_⟩
 ·have h:=World.rowIs_alloc w (madeCells tI (n*194)) 130 (fun j=>cont (Cm.lN n 0 (j / 194)) p3 (j % 194)) (fun j hj=>?_)
  ·rwa [size_madeCells] at h
  ·have hs:tI.size=194:=by unfold tI; simp
   rw [size_madeCells] at hj;have hm:j % 194<194:=Nat.mod_lt _ (by decide);rw [hN]
   have e:(madeCells tI (n*194))[j]?=some (tI[j % 194]!):=by
    unfold madeCells;simp [hj,hs]
   rw [e,OY hm];unfold cont
   congr 1
   by_cases h0:j % 194=0
   ·simp [h0,p3]
   by_cases h1:j % 194=1
   ·simp [h1,p3]
   by_cases h2:j % 194<66
   ·simp [h0,h1,h2,p3]; omega
   by_cases h3:j % 194<130
   ·simp [h0,h1,h2,h3,p3]
   ·simp [h0,h1,h2,h3,Cm.LC]
 ·rw [hN]
  refine ⟨?_,⟨rfl,fun i h=>absurd h (Nat.not_lt_zero _)⟩,?_,fun k h=>by simp [p3,Value.ownBlock] at h,fun k h=>by simp [p3,Value.ownBlock] at h,fun k h=>by simp [p3,Value.ownBlock] at h,fun p x _ h=>by simp [Cm.LC] at h,fun p _ _=>⟨rfl,rfl⟩⟩
  ·exact World.ownsRow_nil ..
  ·exact World.ownsRow_nil ..
 ·rcases h1 with h1 | h1 <;> simp [p3,Value.ownBlock] at h1
def zp (T:bf) (i p:Nat):bf:=fun j=>if j=i then { T j with orb:=[p] } else T j
theorem EM (n k:Nat):iZ (zp (Cm.lN n k) k k) k k (Ma.aR n)=Cm.lN n (k+1):=by
 funext j
 unfold iZ zp Cm.lN
 by_cases e:j=k
 ·subst e
  simp [Cm.LC,Cm.LD]
 ·by_cases h:j<k
  ·rw [if_neg e,if_neg e,if_pos h,if_pos (by omega)]
  ·rw [if_neg e,if_neg e,if_neg h,if_neg (by omega)]
theorem aV.Vt {w:World} {T:bf} {V:Nat→LV} (h:aV F L n w T V) {i o:Nat} (hi:i<n) (ho:o=i*194+1) (p:Nat) :
  (∃ u,(w.alloc (.cells #[.int .i64 ((p:Nat):Int)] 3)).cell? ⟨L,o,none⟩=some u)∧(w.alloc (.cells #[.int .i64 ((p:Nat):Int)] 3)).frozen? ⟨L,o,none⟩=false ∧
  ∃ V',aV F L n ((w.alloc (.cells #[.int .i64 ((p:Nat):Int)] 3)).setCell ⟨L,o,none⟩ (.slice (some ⟨w.heap.size,0,none⟩) 1 1)) (zp T i p) V'∧KF F w ((w.alloc (.cells #[.int .i64 ((p:Nat):Int)] 3)).setCell ⟨L,o,none⟩ (.slice (some ⟨w.heap.size,0,none⟩) 1 1)):=by
 subst ho;have hv:=h.lv i hi;have hb:Below w.heap.size w (w.alloc (.cells #[.int .i64 ((p:Nat):Int)] 3)):=(Below.refl _ _).alloc (Nat.le_refl _) _;have iG:Rg.Kp (fun _=>False) w (w.alloc (.cells #[.int .i64 ((p:Nat):Int)] 3)):=Rg.Kp.aK hb
 have dn:(w.alloc (.cells #[.int .i64 ((p:Nat):Int)] 3)).heap.size=w.heap.size+1:=by simp
 have bD:=eM h.row iG id;have bA:=World.ownsRow_lit (base:=0) (e:=3) (size:=1) w #[.int .i64 ((p:Nat):Int)] 1 (Nat.zero_le _) (by unfold maxLen; omega) rfl;generalize (w.alloc (.cells #[.int .i64 ((p:Nat):Int)] 3))=X at *
 refine ⟨⟨_,(hb.cell (p:=⟨L,i*194+1,none⟩) h.lt).trans (ur h hi rfl)⟩,bD.frozen _,fun j=>if j=i then { V i with o:=.slice (some ⟨w.heap.size,0,none⟩) 1 1 } else V j,?_⟩
 have uu:=H_ (T:=T) (T':=zp T i p) (V:=V) (V':=fun j=>if j=i then { V i with o:=.slice (some ⟨w.heap.size,0,none⟩) 1 1 } else V j) (x:=.slice (some ⟨w.heap.size,0,none⟩) 1 1)
  (fun k hk=>by have:=h.gB k hk; omega) h.LF bD (fun j hj hne=>(h.lv j hj).kp iG (fun _ _=>id) (fun _ _=>id))
  (fun a b ha hb gJ _ _=>h.jY a b ha hb gJ) hi (m:=1) (by omega) rfl (fun j hj=>⟨if_neg hj,if_neg hj⟩) ?_ ?_ ?_
 ·exact ⟨uu.1,Rg.Kp.trans (Rg.Kp.aK hb) uu.2 (fun _ _ e=>e)⟩
 ·intro m' mH
  simp only [if_true,zp];unfold cont
  by_cases h0:m'=0
  ·simp [h0]
  by_cases h1:m'=1
  ·simp [h1]
  ·simp [h0,h1]
 ·simp only [if_true,zp]
  have uQ:=hv.kp iG (fun _ _=>id) (fun _ _=>id);have aJ:=hv.lt;refine ⟨uQ.pY,uQ.BU,bA,uQ.gF,?_,?_,uQ.some_,uQ.none_⟩
  ·intro k e
   have e:w.heap.size=k:=by simpa [Value.ownBlock] using e
   subst e;exact ⟨fun hf=>by have:=h.gB _ hf; omega,by have:=h.lt; omega⟩
  ·intro k e e2
   have e2:w.heap.size=k:=by simpa [Value.ownBlock] using e2
   have:=aJ k (.inl e); omega
 ·intro j k hj hne e
  simp only [if_true] at e
  rcases e with e | e
  ·exact h.jY i j hi hj (Ne.symm hne) k (.inl e)
  ·have e:w.heap.size=k:=by simpa [Value.ownBlock] using e
   intro e2; have:=(h.lv j hj).lt k e2; omega

theorem LG (args:Array Value) (w:World):(callFunc 104 args).run Tryz.prog w=.ok (.enter 104 args) w:=by kernel_rfl
theorem yx {o:Oper} {a:Act} {w:World} {n:Int} {ad:Option Addr} {c:Nat} (x y:Operand) (ho:o.op=.build 122 #[(0,x),(1,y)]) (hx:a.eval x=.int .i64 n) (hy:a.eval y=.slice ad m c) :
  (execOp a.eval o).run Tryz.prog w=.ok (.value (.agg #[.int .i64 n,.slice ad m c])) w:=by
 unfold execOp;simp only [ho,Sem.run_bind,Sem.run_pure];simp only [List.map_toArray,List.map_cons,List.map_nil,hx,hy]
 have h:(Instr.build 122 #[(0,.int .i64 n),(1,.slice ad m c)]).run Tryz.prog w=.ok (.agg #[.int .i64 n,.slice ad m c]) w:=by kernel_rfl
 first | (rw [h]; rfl) | (erw [h]; rfl)
theorem mK {o:Oper} {a:Act} {w:World} {v:Value} (t:TypeId) (x y:Operand) (ho:o.op=.makeSlice t x y) (n m:Value) (hx:a.eval x=n) (hy:a.eval y=m) (hr:(Instr.makeSlice t n m).run Tryz.prog w=.ok v w'):(execOp a.eval o).run Tryz.prog w=.ok (.value v) w':=by
 unfold execOp;simp [ho,hx,hy,hr,Result.andThen]
theorem yy (aZ:1≤n) (bn:n≤64) (w:World) :
  Calls Tryz.prog 83 #[.int .i64 ((n:Nat):Int)] w fun e w'=>∃ (tb L:Nat) (F':Nat→Prop) (V':Nat→LV),e=.returned (.pointer (some ⟨tb,0,none⟩))∧KG (fun k=>k<w.heap.size) w F' w'∧aV F' L n w' (Cm.lN n n) V'∧CF F' w' tb 0 (.int .i64 ((n:Nat):Int))∧CF F' w' tb 1 (.slice (some ⟨L,0,none⟩) n n):=by
 have rW:=aV.start (F:=fun k=>k<w.heap.size) n w (fun _ h=>h);have dG:Below w.heap.size w (w.alloc (.cells (madeCells tI (n*194)) 130)):=(Below.refl _ _).alloc (Nat.le_refl _) _
 have dc:(w.alloc (.cells (madeCells tI (n*194)) 130)).heap.size=w.heap.size+1:=by simp
 have dH:=Jq n (by omega) w
 go_enter Tryz.func83,Tryz.ntmps83
 go_upto_region 1 with fail
 refine b6<|i4 rfl<|i4 rfl<|i8 (mK _ _ _ rfl _ _ rfl rfl dH) ?_;go_frame
 generalize w.alloc (.cells (madeCells tI (n*194)) 130)=w1 at *;refine i8 (yx _ _ rfl rfl rfl) ?_;go_frame;clear dH;have cV:Below w1.heap.size w1 (w1.alloc (.cells #[.int .i64 ((n:Nat):Int),.slice (some ⟨w.heap.size,0,none⟩) n n] 122)):=(Below.refl _ _).alloc (Nat.le_refl _) _
 have bM:(w1.alloc (.cells #[.int .i64 ((n:Nat):Int),.slice (some ⟨w.heap.size,0,none⟩) n n] 122)).heap.size=w1.heap.size+1:=by simp
 have LH:∀ o,(w1.alloc (.cells #[.int .i64 ((n:Nat):Int),.slice (some ⟨w.heap.size,0,none⟩) n n] 122)).cell? ⟨w1.heap.size,o,none⟩=(#[.int .i64 ((n:Nat):Int),.slice (some ⟨w.heap.size,0,none⟩) n n]:Array Value)[o]?:=fun o=>Rg.aM ..;refine i8 (Rg.ba _ _ rfl rfl) ?_;go_frame;generalize w1.alloc (.cells #[.int .i64 ((n:Nat):Int),.slice (some ⟨w.heap.size,0,none⟩) n n] 122)=w2 at *;refine i6 rfl ?_;go_frame;have HT:=ι (rW.up cV);have Ru:cx (fun k=>k<w.heap.size) w1 w2 w1.heap.size:=.inr ⟨Nat.le_refl _,by omega⟩;have C0:=ι (show CF _ _ w1.heap.size 0 (.int .i64 ((n:Nat):Int)) from ⟨LH 0,Ru,by omega⟩);have C1:=ι (show CF _ _ w1.heap.size 1 (.slice (some ⟨w.heap.size,0,none⟩) n n) from ⟨LH 1,Ru,by omega⟩)
 have K:=ι (show KG (fun k=>k<w.heap.size) w (cx (fun k=>k<w.heap.size) w1 w2) w2 from ⟨fun k hk=>.inl hk,fun k hk=>by rcases hk with hk | hk <;> omega,KF.aK (dG.trans ⟨cV.1,cV.2,cV.3,cV.4,fun k hk=>cV.5 k (by omega)⟩)⟩)
 generalize cx (fun k=>k<w.heap.size) w1 w2=F0 at HT C0 C1 K;clear Ru;generalize w1.heap.size=tb at *;obtain ⟨L,hL⟩:∃ L,w.heap.size=L:=⟨_,rfl⟩;rw [hL] at HT C1 ⊢;clear rW dG dc cV bM LH;go_upto_region 2 with fail
 refine b6<|i6 rfl<|i8 (aY _ rfl rfl)<|i8 (g8 (jI _ _))<|i8 (d8 (.slice (some ⟨L,0,none⟩) n n) ⟨tb,1,none⟩ (Rg.ae _ _ Tryz.underlying120 C1.out.cell)) ?_;go_frame
 refine i8 (e8 Tryz.underlying120)<|i4 rfl ?_;go_frame
 go_wp2
 go_loopw [16] (fun kv wr=>∃ (k:Nat) (F1:Nat→Prop) (V1:Nat→LV),kv=.int .i64 k∧k≤n∧Hid (aV F1 L n wr (Cm.lN n k) V1)∧Hid (CF F1 wr tb 0 (.int .i64 ((n:Nat):Int)))∧Hid (CF F1 wr tb 1 (.slice (some ⟨L,0,none⟩) n n))∧Hid (KG (fun k=>k<w.heap.size) w F1 wr)) (fun kv _=>n - (intOf kv).toNat)
 case atStart=>exact ⟨0,F0,_,rfl,Nat.zero_le _,HT,C0,C1,K⟩
 case round =>
  clear HT C0 C1 K;obtain ⟨k,F0,V1,rfl,hk,HT,C0,C1,K⟩:=hrel
  by_cases bP:k<n
  ·have iH:(k:Int)<(n:Int):=by omega
   have Ic:k<64:=by omega
   go_upto_region 5 with fail
   refine b6<|i6 rfl<|i8 (aY _ rfl rfl)<|i8 (g8 (jI _ _))<|i8 (d8 (.slice (some ⟨L,0,none⟩) n n) ⟨tb,1,none⟩ (Rg.ae _ _ Tryz.underlying120 C1.out.cell)) ?_;go_frame
   refine i4 rfl<|i8 (cT _ _ rfl Tryz.underlying120 gN L (n) (n) (k) rfl rfl bP)<|i6 rfl ?_;go_frame
   go_upto_region 6 with fail
   refine b6<|i6 rfl<|i4 rfl<|i8 (Rg.aC _ _ _ rfl (.int .i64 ((k:Nat):Int)) rfl (kt wr _)) ?_;go_frame
   obtain ⟨⟨u5,r2⟩,r3,V5,r4,r5⟩:=HT.out.Vt bP (o:=k*194+1) rfl k
   refine i8 (aY _ rfl rfl)<|i8 (g8 (zm _ _ _))<|Rg.aF none rfl rfl (Rg.az _ _ _ rfl _ rfl _ rfl (Rg.cn _ pJ r2 r3)) ?_;go_frame
   clear r2 r3;have dZ:=KG.v8 (KG.refl HT.out.gB) r5;generalize (wr.alloc (.cells #[.int .i64 ((k:Nat):Int)] 3)).setCell ⟨L,k*194+1,none⟩ (.slice (some ⟨wr.heap.size,0,none⟩) 1 1)=Ck at *;replace C0:=ι (C0.out.kg dZ);replace C1:=ι (C1.out.kg dZ);replace K:=ι (K.out.trans dZ);replace HT:=ι r4;clear dZ r4 r5;go_upto_region 7 with fail;have aw:Below Ck.heap.size Ck Ck.drew:=(Below.refl _ _).drew;replace HT:=ι (HT.out.up aw);replace C0:=ι (C0.out.up aw);replace C1:=ι (C1.out.up aw);replace K:=ι (K.out.up aw);generalize cx F0 Ck Ck.drew=F1 at *;clear aw;refine Rg.Any.begin (S:=Rg.aH 11 (fun W=>Below Ck.drew.heap.size Ck.drew W) (fun _=>True)) mix ?_;generalize Ck.drew=ew at *;have hS:∀ (l:Array Bool) W,Below ew.heap.size ew W→Rg.aH 11 (fun W=>Below ew.heap.size ew W) (fun _=>True) l W:=fun l W h=>⟨.inr h,trivial⟩
   have dF:∀ (l:Array Bool) W,l.getD 11 false=true→Rg.aH 11 (fun W=>Below ew.heap.size ew W) (fun _=>True) l W:=fun l W h=>⟨.inl h,trivial⟩;have hI:Below ew.heap.size ew ew:=Below.refl _ _
   refine c8 0 11 (.pointer (some ⟨L,k*194,none⟩)) 30 (hS _ _ hI)<|c8 1 11 (.int .i64 ((k:Nat):Int)) 31 (hS _ _ hI)<|c8 2 11 (.pointer (some ⟨L,k*194,none⟩)) 32 (hS _ _ hI)<|c8 3 11 (.int .i64 ((k:Nat):Int)) 33 (hS _ _ hI)<|c8 4 11 (.int .i64 ((n:Nat):Int)) 34 (hS _ _ hI) ?_;go_frame
   refine c8 6 11 (.int .i64 ((n:Nat):Int)) 36 (hS _ _ hI)<|c7 8 11 (.pointer (some ⟨L,k*194,none⟩)) 38 rfl rfl (g7 fun w=>aY _ rfl rfl) (hS _ _ hI)<|c7 9 11 (.pointer (some ⟨L,k*194+2,none⟩)) 39 rfl rfl (g7 fun w=>aA _ rfl rfl (uw _ _ _)) (hS _ _ hI)<|c7 12 11 (.pointer (some ⟨L,k*194,none⟩)) 41 rfl rfl (g7 fun w=>aY _ rfl rfl) (hS _ _ hI)<|c7 13 11 (.pointer (some ⟨L,k*194+66,none⟩)) 42 rfl rfl (g7 fun w=>aA _ rfl rfl (zn _ _ _)) (hS _ _ hI) ?_;go_frame
   refine Rg.Any.one (i:=5) (by kernel_rfl) (Rg.Any.ask (some 35) rfl rfl rfl _ _ (aq 104 _ _ rfl rfl (LG _ _)) ?_);refine (BX (F:=F1) n ew bn).mono ?_;rintro e1 fX ⟨av,rfl,eQ,hb⟩;obtain ⟨ab,ao,ac,rfl⟩:=eQ.eC (Cm.dX n) aZ;have dg:=Rg.acc hI hb;clear hI;replace HT:=ι (HT.out.up hb);replace C0:=ι (C0.out.up hb);replace C1:=ι (C1.out.up hb);replace K:=ι (K.out.up hb);have AF:=ι eQ;generalize cx F1 ew fX=F2 at *;clear hb;refine ⟨_,rfl,(hS _ _ dg),?_⟩;go_frame;refine Rg.Any.one (i:=7) (by kernel_rfl) (Rg.Any.ask (some 37) rfl rfl rfl _ _ (aq 104 _ _ rfl rfl (LG _ _)) ?_);refine (BX (F:=F2) n fX bn).mono ?_;rintro e1 qp ⟨bv,rfl,Ld,hb⟩;obtain ⟨bb,bo,bc,rfl⟩:=Ld.eC (Cm.dX n) aZ;have qq:=Rg.acc dg hb;clear dg;replace HT:=ι (HT.out.up hb);replace C0:=ι (C0.out.up hb);replace C1:=ι (C1.out.up hb)
   replace AF:=ι (AF.out.up hb);replace K:=ι (K.out.up hb);have BF:=ι Ld;generalize cx F2 fX qp=F3 at *;clear hb;refine ⟨_,rfl,(hS _ _ qq),?_⟩;go_frame;refine c7 10 11 (.pointer (some ⟨L,k*194+2+k,none⟩)) 40 rfl rfl (g7 fun w=>bp _ _ rfl Tryz.underlying127 rM L (k*194+2) (k) rfl rfl Ic) (hS _ _ qq) ?_;go_frame;refine Rg.Any.one (i:=11) (by kernel_rfl) (Rg.Any.fl none rfl rfl rfl (Rg.az _ _ _ rfl _ rfl _ rfl (Rg.cn _ gW (ql HT.out bP Ic (by omega)) (HT.out.frozen _))) (dF _ _ rfl) ?_);go_frame;refine c7 14 11 (.pointer (some ⟨L,k*194+66+k,none⟩)) 43 rfl rfl (g7 fun w=>bp _ _ rfl Tryz.underlying127 rM L (k*194+66) (k) rfl rfl Ic) (dF _ _ rfl) ?_;go_frame;have dA:=HT.out.row.set (k*194+2+k) (.slice (some ⟨ab,ao,none⟩) n ac);refine Rg.Any.one (i:=15) (by kernel_rfl) (Rg.Any.fl none rfl rfl rfl (Rg.az _ _ _ rfl _ rfl _ rfl (Rg.cn _ gW (dA.cell (by omega)) (dA.frozen _))) (dF _ _ rfl) ?_)
   go_frame;clear dA;refine Rg.Any.done (by kernel_rfl) ?_ _;clear dF;clear hS qq;obtain ⟨V4,EE,Lr⟩:=HT.out.iZ bP Ic (o1:=k*194+2+k) (o2:=k*194+66+k) (by omega) (by omega) AF.out (by rw [Cm.inv_one]; exact BF.out);rw [EM] at EE;have dZ:=KG.v8 (KG.refl HT.out.gB) Lr;generalize (qp.setCell ⟨L,k*194+2+k,none⟩ (.slice (some ⟨ab,ao,none⟩) n ac)).setCell ⟨L,k*194+66+k,none⟩ (.slice (some ⟨bb,bo,none⟩) n bc)=Rh at *;replace C0:=ι (C0.out.kg dZ);replace C1:=ι (C1.out.kg dZ);replace K:=ι (K.out.trans dZ);replace HT:=ι EE;clear dZ Lr EE AF BF;go_wp2
   go_roundw
   case rel=>exact ⟨k+1,_,V4,by go_num,by omega,HT,C0,C1,K⟩
   case measure=>simp [intOf]; omega
  ·obtain rfl:k=n:=by omega
   have iH:¬ (k:Int)<(k:Int):=by omega
   go_wp2;go_ret;exact ⟨tb,rfl,L,F0,by rw [← hL]; exact K.out,⟨V1,HT.out⟩,C0.out,C1.out⟩

theorem Rv (args:Array Value) (w:World):(callFunc 83 args).run Tryz.prog w=.ok (.enter 83 args) w:=by kernel_rfl
def GS (F:Nat→Prop) (w:World) (v:Value) (gs:List (List Nat)):Prop:=∃ a c,v=.slice a gs.length c∧(0<gs.length→∃ b o,a=some ⟨b,o,none⟩∧∀ k (hk:k<gs.length),∃ u,CF F w b (o+k) u∧FP F w u gs[k])
theorem FP.EN {w:World} {v:Value} {x:List Nat} (h:Rg.NP w v x):FP (fun k=>k<w.heap.size) w v x:=by
 obtain ⟨a,cap,h1,h2,h3,h4,h5⟩:=h;refine ⟨a,cap,h1,h2,h3,h4,fun h0=>?_⟩;obtain ⟨b,o,e1,e2,e3⟩:=h5 h0;exact ⟨b,o,e1,e2,e2,e3⟩
theorem GS.Cn {w:World} {v:Value} (h:Rg.Rows w v (gs.map Ma.ah)):GS (fun k=>k<w.heap.size) w v gs:=by
 obtain ⟨a,cap,e,h2,h3,h4,h5⟩:=h.shape;rw [List.length_map] at e;refine ⟨a,cap,e,fun h0=>?_⟩;obtain ⟨b,o,e1,e2,e3⟩:=h5 (by rw [List.length_map]; exact h0);refine ⟨b,o,e1,fun k hk=>?_⟩;obtain ⟨u,hu,hi⟩:=e3 k (by rw [List.length_map]; exact hk);rw [List.getElem_map] at hi;exact ⟨u,⟨hu,e2,e2⟩,FP.EN hi⟩
theorem EO (aZ:1≤n) (bn:n≤64) {w:World} {v:Value} (hv:GS (fun k=>k<w.heap.size) w v gs) (hg:∀ s∈gs,Cm.Gd n s) (dm:gs.length≤1000000) :
  Calls Tryz.prog 62 #[.int .i64 ((n:Nat):Int),v] w fun e w'=>∃ (tb L:Nat) (F':Nat→Prop) (T':bf) (V':Nat→LV),e=.returned (.pointer (some ⟨tb,0,none⟩))∧KG (fun k=>k<w.heap.size) w F' w'∧aV F' L n w' T' V'∧CF F' w' tb 0 (.int .i64 ((n:Nat):Int))∧CF F' w' tb 1 (.slice (some ⟨L,0,none⟩) n n)∧Cm.j9 n (·∈gs) T':=by
 obtain ⟨ga,gc,rfl,kz⟩:=hv;have uW:=ι kz;have HG:=ι hg;have Li:=ι ((Cj aZ bn n 0 (by omega) (by omega)).1);clear kz hg
 go_enter Tryz.func62,Tryz.ntmps62
 go_upto_region 1 with fail
 refine b6<|i4 rfl ?_;go_frame
 refine d4 9 (aq 83 _ _ rfl rfl (Rv _ _)) ?_;refine (yy aZ bn w).mono ?_;rintro e1 w1 ⟨tb,L,F1,V1,rfl,iG,wk,ux,uy⟩;refine ⟨_,rfl,?_⟩;go_frame;have HT:=ι wk;have C0:=ι ux;have C1:=ι uy;have K:=ι iG;clear iG;refine i6 rfl ?_;go_frame;clear wk ux uy;have HB:=ι (show Cm.j9 n (·∈gs.take 0) (Cm.lN n n) by have:=Cm.j9.new (n:=n); simpa using this);go_wp2
 go_loopw [12] (fun kv wr=>∃ (k:Nat) (F1:Nat→Prop) (T1:bf) (V1:Nat→LV),kv=.int .i64 k∧k≤gs.length∧Hid (aV F1 L n wr T1 V1)∧Hid (CF F1 wr tb 0 (.int .i64 ((n:Nat):Int)))∧Hid (CF F1 wr tb 1 (.slice (some ⟨L,0,none⟩) n n))∧Hid (KG (fun k=>k<w.heap.size) w F1 wr)∧Hid (Cm.j9 n (·∈gs.take k) T1)) (fun kv _=>gs.length - (intOf kv).toNat)
 case atStart=>exact ⟨0,F1,_,V1,rfl,Nat.zero_le _,HT,C0,C1,K,HB⟩
 case round =>
  clear HT C0 C1 K HB;obtain ⟨k,F1,T1,V1,rfl,hk,HT,C0,C1,K,HB⟩:=hrel
  by_cases bP:k<gs.length
  ·have iH:(k:Int)<(gs.length:Int):=by omega
   have kz:=uW.out;obtain ⟨gb,go,rfl,LJ⟩:=kz (by omega);obtain ⟨u,mL,EP⟩:=LJ k bP;have GX:=ι (HG.out _ (List.getElem_mem bP));obtain ⟨x,hx⟩:∃ x,Hid (gs[k]=x):=⟨_,ι rfl⟩;rw [hx.out] at EP GX;obtain ⟨ub,uo,uc,rfl⟩:=EP.eC GX.out aZ;have CU:=ι (mL.kg K.out);have X:=ι (EP.kg K.out);have bd:=ι bP;clear kz LJ mL EP;go_upto_region 4 with fail
   refine b6<|i8 (ag aE _ _ rfl gb (go) (gs.length) gc (k) rfl rfl bd.out)<|i8 (d8 (.slice (some ⟨ub,uo,none⟩) n uc) ⟨gb,go+k,none⟩ (Rg.ae _ _ Tryz.underlying26 CU.out.cell))<|i5 rfl ?_;go_frame
   go_upto_region 5 with fail
   refine b6<|i6 rfl<|i5 rfl ?_;go_frame
   refine d4 18 (dN 84 _ _ _ _ rfl rfl rfl rfl (Lg _ _)) ?_;refine (Li.out _ L tb _ _ _ _ _ HT.out C0.out C1.out X.out GX.out (fun j h=>absurd h (Nat.not_lt_zero _)) (fun j _ h=>HB.out.full j h)).mono ?_;rintro e1 gC ⟨F9,T9,V9,rfl,iI,Ch,Ly⟩;have nv:=ι (HB.out.add (gs':=(·∈gs.take (k+1))) (fun s=>by rw [List.take_succ_eq_append_getElem bd.out,hx.out]; simp) (fun s hs=>HG.out s (List.mem_of_mem_take hs)) Ly);clear Ly;refine ⟨_,rfl,?_⟩;go_frame;replace HT:=ι Ch;replace C0:=ι (C0.out.kg iI);replace C1:=ι (C1.out.kg iI);replace CU:=ι (CU.out.kg iI);replace X:=ι (X.out.kg iI);replace K:=ι (K.out.trans iI);clear iI Ch;go_wp2
   go_roundw
   case rel=>exact ⟨k+1,F9,T9,V9,by go_num,bd.out,HT,C0,C1,K,nv⟩
   case measure=>simp [intOf]; have:=bd.out; omega
  ·obtain rfl:k=gs.length:=by omega
   have iH:¬ (gs.length:Int)<(gs.length:Int):=by omega
   have nv:=ι (by have:=HB.out; rwa [List.take_length] at this);go_wp2;go_ret;exact ⟨tb,rfl,L,F1,K.out,T1,⟨V1,HT.out⟩,C0.out,C1.out,nv.out⟩
end Go.Proofs.YtbngdgfmlmkgiaaGreat

namespace Go.Proofs.YtbngdgfmlmkgiaaGreat
open Go.RowKit
open Go.Proofs
open Go.Proofs.Cm (Lv bf bX)
attribute [local irreducible] Go.Calls Go.wpList
theorem ER (aZ:1≤n) (bn:n≤64) {w:World} {T:bf} {V:Nat→LV} (hT:aV F0 L n w T V) (cr:CF F0 w tb 0 (.int .i64 ((n:Nat):Int))) (eJ:CF F0 w tb 1 (.slice (some ⟨L,0,none⟩) n n)) (hH:Cm.eI n H) (dx:Cm.kn n H (bX T)) (hl:∀ j,j<n→Cm.fC n T j) {x:List Nat} {i:Nat} (hx:FP F0 w xv x) (gx:Cm.Gd n x) (hi:i<n) :
  Calls Tryz.prog 88 #[.pointer (some ⟨tb,0,none⟩),xv,.int .i64 ((i:Nat):Int)] w fun e w'=>∃ F' yv y,e=.returned yv∧KG F0 w F' w'∧aV F' L n w' T V∧FP F' w' yv y∧Cm.LI H i n x y∧Cm.Gd n y∧Below w.heap.size w w':=by
 have K:=ι (KG.refl hT.gB);have HT:=ι hT;have C0:=ι cr;have C1:=ι eJ;have X:=ι hx;have HH:=ι hH;have n5:=ι dx;have HL:=ι hl;have GX:=ι gx;have KB:=ι (Below.refl w.heap.size w);have mM:=ι (Cm.LI.start hH hi gx);have rS:=cr.cell;clear hT cr eJ hx hH dx hl gx
 go_enter Tryz.func88,Tryz.ntmps88
 go_wp2
 go_loopw [7,1] (fun kv yv wr=>∃ (k:Nat) (y:List Nat) (F1:Nat→Prop),kv=.int .i64 k∧i<k∧k≤n∧Hid (FP F1 wr yv y)∧Hid (aV F1 L n wr T V)∧Hid (CF F1 wr tb 0 (.int .i64 ((n:Nat):Int)))∧Hid (CF F1 wr tb 1 (.slice (some ⟨L,0,none⟩) n n))∧Hid (KG F0 w F1 wr)∧Hid (Below w.heap.size w wr)∧Hid (Cm.Gd n y)∧Hid (Cm.LI H i k x y)) (fun kv _ _=>n - (intOf kv).toNat)
 case atStart=>exact ⟨i+1,x,F0,by go_num,by omega,by omega,X,HT,C0,C1,K,KB,GX,mM⟩
 case round =>
  clear X HT C0 C1 K KB rS mM;obtain ⟨k,y,F,rfl,iG,fD,X,HT,C0,C1,K,KB,GY,mM⟩:=hrel;have rS:=C0.out.cell
  by_cases bP:k<n
  ·have iH:(k:Int)<(n:Int):=by omega
   obtain ⟨yb,yo,yc,rfl⟩:=X.out.eC GY.out aZ;have eA:=HL.out k bP;obtain ⟨oa,oc,lW⟩:=HT.out.nU bP;have CO:=ι (CL.mk (show wr.cell? ⟨L,k*194+1,none⟩=some (.slice oa (T k).orb.length oc) by rw [ur HT.out bP rfl,lW]) HT.out.lt);have j_:=ι (show ∀ m (h:m<(T k).orb.length),m<0→Cm.ap y k≤Cm.ap y (T k).orb[m] from fun m _ h=>absurd h (Nat.not_lt_zero _));have jZ:=ι (show ∃ u,bX T k k=some u from ⟨_,eA.self⟩);have bd:=ι bP;clear eA;go_upto_region 5 with fail
   refine b6<|i6 rfl<|i8 (aY _ rfl rfl)<|i8 (g8 (jI _ _))<|i8 (d8 (.slice (some ⟨L,0,none⟩) n n) ⟨tb,1,none⟩ (Rg.ae _ _ Tryz.underlying120 C1.out.cell)) ?_;go_frame
   refine i4 rfl<|i8 (cT _ _ rfl Tryz.underlying120 gN L (n) (n) (k) rfl rfl bd.out)<|i8 (g8 (zm _ _ _))<|i8 (d8 (.slice oa (T k).orb.length oc) ⟨L,k*194+1,none⟩ (Rg.ae _ _ Tryz.underlying25 CO.out.cell))<|i8 (e8 Tryz.underlying25) ?_;go_frame
   refine i4 rfl ?_;go_frame;clear CO rS;go_wp2
   go_loopw [8,31] (fun bv iv wr=>∃ (b m:Nat) (F1:Nat→Prop),bv=.int .i64 b∧iv=.int .i64 m∧m≤(T k).orb.length∧b<n∧Hid (FP F1 wr (.slice (some ⟨yb,yo,none⟩) n yc) y)∧Hid (aV F1 L n wr T V)∧Hid (CF F1 wr tb 0 (.int .i64 ((n:Nat):Int)))∧Hid (CF F1 wr tb 1 (.slice (some ⟨L,0,none⟩) n n))∧Hid (KG F0 w F1 wr)∧Hid (Below w.heap.size w wr)∧Hid (∃ u,bX T k b=some u)∧Hid (∀ m' (h:m' < (T k).orb.length),m' < m→Cm.ap y b≤Cm.ap y (T k).orb[m'])) (fun _ iv _=>(T k).orb.length - (intOf iv).toNat)
   case atStart=>exact ⟨k,0,F,rfl,rfl,Nat.zero_le _,bP,X,HT,C0,C1,K,KB,jZ,j_⟩
   case round =>
    clear X HT C0 C1 K KB jZ j_;obtain ⟨b,m,F,rfl,rfl,hm,n7,X,HT,C0,C1,K,KB,jZ,j_⟩:=hrel;have Rw:=Cm.mF (HL.out k bP)
    have Ji:((T k).orb.length:Int)≤64:=by omega
    by_cases kX:m<(T k).orb.length
    ·have wm:(m:Int)<((T k).orb.length:Int):=by omega
     obtain ⟨og,mN,Qq,aN,oO⟩:=HT.out.Qj bP kX;rw [lW] at Qq
     injection Qq with e1 _ e2
     subst e1 e2;obtain ⟨q,hq⟩:∃ q:Nat,Hid (q=(T k).orb[m]):=⟨_,ι rfl⟩;rw [← hq.out] at aN;have CQ:=ι (CL.mk aN oO);have fY:=ι kX;have Rx:=((HL.out k bP).orb q).1 (by rw [hq.out]; exact List.getElem_mem kX);have ES:=ι (show ∃ u,bX T k q=some u from Rx)
     have gZ:q<n:=by obtain ⟨u,hu⟩:=Rx; exact (HL.out k bP).Ae q u hu
     have i_:=ι (X.out.ap GY.out gZ);have ja:=ι (X.out.ap GY.out n7);obtain ⟨yq,wu⟩:∃ z:Nat,Hid (z=Cm.ap y q):=⟨_,ι rfl⟩;obtain ⟨oP,wx⟩:∃ z:Nat,Hid (z=Cm.ap y b):=⟨_,ι rfl⟩;rw [← wu.out] at i_;rw [← wx.out] at ja;clear aN oO Rx
     by_cases aJ:yq<oP
     ·have Co:(yq:Int)<(oP:Int):=by omega
      go_upto_region 7 with fail
      refine b6<|i8 (ag aX _ _ rfl og (0) ((T k).orb.length) oc (m) rfl rfl fY.out)<|i8 (d8 (.int .i64 ((q:Nat):Int)) ⟨og,0+m,none⟩ (af CQ.out.cell))<|i4 rfl ?_;go_frame
      go_upto_region 8 with fail;have cO:Below wr.heap.size wr wr.drew:=(Below.refl _ _).drew;replace KB:=ι (Rg.acc KB.out cO);clear cO;have aw:Below wr.heap.size wr wr.drew:=(Below.refl _ _).drew;replace HT:=ι (HT.out.up aw);replace C0:=ι (C0.out.up aw);replace C1:=ι (C1.out.up aw);replace X:=ι (X.out.up aw);replace CQ:=ι (CQ.out.up aw);replace i_:=ι (i_.out.up aw);replace ja:=ι (ja.out.up aw);replace K:=ι (K.out.up aw);generalize cx F wr wr.drew=F1 at *;clear aw;refine Rg.Any.begin (S:=Rg.aH 8 (fun _=>True) (fun W=>Below wr.drew.heap.size wr.drew W)) mix ?_;generalize wr.drew=w1 at *;have hS:∀ (l:Array Bool) W,Below w1.heap.size w1 W→Rg.aH 8 (fun _=>True) (fun W=>Below w1.heap.size w1 W) l W:=fun l W h=>⟨.inr trivial,h⟩;have hI:Below w1.heap.size w1 w1:=Below.refl _ _
      refine c8 0 8 (.slice (some ⟨yb,yo,none⟩) n yc) 35 (hS _ _ hI)<|c8 1 8 (.int .i64 ((q:Nat):Int)) 36 (hS _ _ hI)<|c7 2 8 (.pointer (some ⟨yb,yo+q,none⟩)) 37 rfl rfl (Rg.ai bK _ _ rfl rfl yb (yo) (n) yc (q) rfl rfl gZ) (hS _ _ hI)<|c7 3 8 (.int .i64 ((yq:Nat):Int)) 38 rfl rfl (g6 ⟨yb,yo+q,none⟩ (fun W hW=>af ((Below.cell (p:=⟨yb,yo+q,none⟩) hW i_.out.lt).trans i_.out.cell))) (hS _ _ hI)<|c8 4 8 (.slice (some ⟨yb,yo,none⟩) n yc) 39 (hS _ _ hI) ?_;go_frame
      refine c8 5 8 (.int .i64 ((b:Nat):Int)) 40 (hS _ _ hI)<|c7 6 8 (.pointer (some ⟨yb,yo+b,none⟩)) 41 rfl rfl (Rg.ai bK _ _ rfl rfl yb (yo) (n) yc (b) rfl rfl n7) (hS _ _ hI)<|c7 7 8 (.int .i64 ((oP:Nat):Int)) 42 rfl rfl (g6 ⟨yb,yo+b,none⟩ (fun W hW=>af ((Below.cell (p:=⟨yb,yo+b,none⟩) hW ja.out.lt).trans ja.out.cell))) (hS _ _ hI)<|g5 8 43 rfl rfl (d9 (.bool true) .lss (h:=aL _ d5)) (hS _ _ hI) ?_;go_frame
      refine Rg.Any.done (by kernel_rfl) ?_ _;clear hS hI
      have wy:=ι (show ∀ m' (h:m' < (T k).orb.length),m' < m+1→Cm.ap y q≤Cm.ap y (T k).orb[m'] from fun m' h h2=>by
       have a1:=wu.out;have a2:=wx.out
       by_cases e:m'=m
       ·subst e
        rw [← hq.out]; omega
       ·have:=j_.out m' h (by omega)
        omega)
      simp only [Nat.zero_add];go_wp2
      go_roundw
      case rel=>exact ⟨q,m+1,_,rfl,by go_num,fY.out,gZ,X,HT,C0,C1,K,KB,ES,wy⟩
      case measure=>simp [intOf]; have:=fY.out; omega
     ·have Co:¬ (yq:Int)<(oP:Int):=by omega
      go_upto_region 7 with fail
      refine b6<|i8 (ag aX _ _ rfl og (0) ((T k).orb.length) oc (m) rfl rfl fY.out)<|i8 (d8 (.int .i64 ((q:Nat):Int)) ⟨og,0+m,none⟩ (af CQ.out.cell))<|i4 rfl ?_;go_frame
      go_upto_region 8 with fail;have cO:Below wr.heap.size wr wr.drew:=(Below.refl _ _).drew;replace KB:=ι (Rg.acc KB.out cO);clear cO;have aw:Below wr.heap.size wr wr.drew:=(Below.refl _ _).drew;replace HT:=ι (HT.out.up aw);replace C0:=ι (C0.out.up aw);replace C1:=ι (C1.out.up aw);replace X:=ι (X.out.up aw);replace CQ:=ι (CQ.out.up aw);replace i_:=ι (i_.out.up aw);replace ja:=ι (ja.out.up aw);replace K:=ι (K.out.up aw);generalize cx F wr wr.drew=F1 at *;clear aw;refine Rg.Any.begin (S:=Rg.aH 8 (fun _=>True) (fun W=>Below wr.drew.heap.size wr.drew W)) mix ?_;generalize wr.drew=w2 at *;have hS:∀ (l:Array Bool) W,Below w2.heap.size w2 W→Rg.aH 8 (fun _=>True) (fun W=>Below w2.heap.size w2 W) l W:=fun l W h=>⟨.inr trivial,h⟩;have hI:Below w2.heap.size w2 w2:=Below.refl _ _
      refine c8 0 8 (.slice (some ⟨yb,yo,none⟩) n yc) 35 (hS _ _ hI)<|c8 1 8 (.int .i64 ((q:Nat):Int)) 36 (hS _ _ hI)<|c7 2 8 (.pointer (some ⟨yb,yo+q,none⟩)) 37 rfl rfl (Rg.ai bK _ _ rfl rfl yb (yo) (n) yc (q) rfl rfl gZ) (hS _ _ hI)<|c7 3 8 (.int .i64 ((yq:Nat):Int)) 38 rfl rfl (g6 ⟨yb,yo+q,none⟩ (fun W hW=>af ((Below.cell (p:=⟨yb,yo+q,none⟩) hW i_.out.lt).trans i_.out.cell))) (hS _ _ hI)<|c8 4 8 (.slice (some ⟨yb,yo,none⟩) n yc) 39 (hS _ _ hI) ?_;go_frame
      refine c8 5 8 (.int .i64 ((b:Nat):Int)) 40 (hS _ _ hI)<|c7 6 8 (.pointer (some ⟨yb,yo+b,none⟩)) 41 rfl rfl (Rg.ai bK _ _ rfl rfl yb (yo) (n) yc (b) rfl rfl n7) (hS _ _ hI)<|c7 7 8 (.int .i64 ((oP:Nat):Int)) 42 rfl rfl (g6 ⟨yb,yo+b,none⟩ (fun W hW=>af ((Below.cell (p:=⟨yb,yo+b,none⟩) hW ja.out.lt).trans ja.out.cell))) (hS _ _ hI)<|g5 8 43 rfl rfl (d9 (.bool false) .lss (h:=aL _ d6)) (hS _ _ hI) ?_;go_frame
      refine Rg.Any.done (by kernel_rfl) ?_ _;clear hS hI
      have wy:=ι (show ∀ m' (h:m' < (T k).orb.length),m' < m+1→Cm.ap y b≤Cm.ap y (T k).orb[m'] from fun m' h h2=>by
       have a1:=wu.out;have a2:=wx.out
       by_cases e:m'=m
       ·subst e
        rw [← hq.out]; omega
       ·have:=j_.out m' h (by omega)
        omega)
      simp only [Nat.zero_add];go_wp2
      go_roundw
      case rel=>exact ⟨b,m+1,_,rfl,by go_num,fY.out,n7,X,HT,C0,C1,K,KB,jZ,wy⟩
      case measure=>simp [intOf]; have:=fY.out; omega
    ·obtain rfl:m=(T k).orb.length:=by omega
     have wm:¬ ((T k).orb.length:Int)<((T k).orb.length:Int):=by omega
     have uz:=ι (show ∀ q',bX T k q'≠none→Cm.ap y b≤Cm.ap y q' from fun q' ym=>by
      obtain ⟨u,hu⟩:=Option.ne_none_iff_exists'.1 ym;obtain ⟨m',mH,rfl⟩:=List.getElem_of_mem (((HL.out k bP).orb q').2 ⟨u,hu⟩)
      exact j_.out m' mH mH)
     obtain ⟨u,hu⟩:=jZ.out;have Cp:=ι (Cm.LI.step HH.out n5.out GX.out iG bP mM.out hu uz.out);have GU:=ι ((HL.out k bP).vY b u hu);have GM:=ι (Cm.a_ GU.out GY.out)
     have LK:b<64:=by omega
     clear uz j_ jZ
     by_cases l0:b=k
     ·have LM:(b:Int)=(k:Int):=by omega
      have HE:=ι (show Ma.aj u y=y by
       subst l0;have:=(HL.out b bP).self;have e:some u=some (Ma.aR n):=hu.symm.trans this
       injection e with e
       rw [e,Cm.one_mul GY.out])
      clear l0 hu;go_upto_region 11 with fail
      refine b6<|i4 rfl<|i4 rfl<|i8 (d9 (.bool false) .neq (h:=ax _ d6)) ?_;go_frame
      have rS:=C0.out.cell;go_wp2
      go_roundw
      case rel=>exact ⟨k+1,y,_,by go_num,by omega,by omega,X,HT,C0,C1,K,KB,GY,ι (by have:=Cp.out; rwa [HE.out] at this)⟩
      case measure=>simp [intOf]; omega
     ·have LM:¬ (b:Int)=(k:Int):=by omega
      obtain ⟨ub,uo,uc,Cb,Cc⟩:=HT.out.OP bP LK hu GU.out aZ;have UP:=ι Cc;have CU:=ι (CL.mk (show wr.cell? ⟨L,k*194+2+b,none⟩=some (.slice (some ⟨ub,uo,none⟩) n uc) by rw [ql HT.out bP LK (by omega),Cb]) HT.out.lt);clear l0 hu Cb Cc;go_upto_region 11 with fail
      refine b6<|i4 rfl<|i4 rfl<|i8 (d9 (.bool true) .neq (h:=ax _ d5)) ?_;go_frame
      go_upto_region 12 with fail
      refine b6<|i6 rfl<|i8 (aY _ rfl rfl)<|i8 (g8 (jI _ _))<|i8 (d8 (.slice (some ⟨L,0,none⟩) n n) ⟨tb,1,none⟩ (Rg.ae _ _ Tryz.underlying120 C1.out.cell)) ?_;go_frame
      refine i4 rfl<|i4 rfl<|i8 (cT _ _ rfl Tryz.underlying120 gN L (n) (n) (k) rfl rfl bd.out)<|i8 (g8 (uw _ _ _))<|i8 (bp _ _ rfl Tryz.underlying127 rM L (k*194+2) (b) rfl rfl LK) ?_;go_frame
      refine i8 (d8 (.slice (some ⟨ub,uo,none⟩) n uc) ⟨L,k*194+2+b,none⟩ (Rg.ae _ _ Tryz.underlying26 CU.out.cell))<|i5 rfl ?_;go_frame
      refine d4 60 (aD 110 _ _ _ rfl rfl rfl (Ak _ _)) ?_;refine (rR UP.out X.out GU.out GY.out aZ bn).mono ?_;rintro e1 w3 ⟨mv,rfl,dL,hb⟩;replace KB:=ι (Rg.acc KB.out hb);refine ⟨_,rfl,?_⟩;go_frame;replace HT:=ι (HT.out.up hb);replace C0:=ι (C0.out.up hb);replace C1:=ι (C1.out.up hb);replace X:=ι (X.out.up hb);replace UP:=ι (UP.out.up hb);replace CU:=ι (CU.out.up hb);replace K:=ι (K.out.up hb);have MV:=ι dL;generalize cx F wr w3=F1 at *;clear hb;refine i3 (mv) rfl ?_;go_frame;have rS:=C0.out.cell;go_wp2
      go_roundw
      case rel=>exact ⟨k+1,_,_,by go_num,by omega,by have:=bd.out; omega,MV,HT,C0,C1,K,KB,GM,Cp⟩
      case measure=>simp [intOf]; have:=bd.out; omega
  ·obtain rfl:k=n:=by omega
   have iH:¬ (k:Int)<(k:Int):=by omega
   go_wp2;go_ret;exact ⟨_,_,rfl,K.out,HT.out,y,X.out,mM.out,GY.out,KB.out⟩
end Go.Proofs.YtbngdgfmlmkgiaaGreat

namespace Go.Proofs.YtbngdgfmlmkgiaaGreat
open Go.RowKit
open Go.Proofs
open Go.Shelf
attribute [local go_sem] Oper.semAt_some
def upto {α:Type} (f:Nat→α) (k:Nat):List α:=(List.range k).map f
theorem wz {α:Type} (f:Nat→α) (k:Nat):upto f (k+1)=upto f k++[f k]:=by simp [upto,List.range_succ]
theorem Aq {α:Type} (f:Nat→α) (k:Nat):(upto f k).length=k:=by simp [upto]
theorem Jr (zs:List Int):upto (fun j=>zs[j]?.getD 0) zs.length=zs:=by
 apply List.ext_getElem
 ·simp [upto]
 ·intro i h1 h2
  simp [upto,h2]
theorem ET (zs:List Int) (hk:k≤zs.length):upto (fun j=>zs[j]?.getD 0) k=zs.take k:=by
 apply List.ext_getElem
 ·simp [upto,hk]
 ·intro i h1 h2
  have:i<zs.length:=by simp [upto] at h1; omega
  simp [upto,this]
theorem Cq (F:Fence) (n:Nat) (h7:F.fn 109) (hro:F.round=none) (hn:1≤n) (l Bs n₀ b off len cap:Nat) (zs:List Int) (Ie:len*8≤140737488351232) (hb:b<n₀) (J Jx:List Int→World→Prop)
  (hY:∀ pre x W,J pre W→pre.length<len→YieldAt F (n - 1) Tryz.prog l #[.int .i64 x] W fun e W' =>
   (e=.returned (.bool true)∧J (pre++[x]) W'∧Below n₀ W W')∨(e=.returned (.bool false)∧Jx (pre++[x]) W'))
  (W:World) (wD:W.cell? ⟨Bs,0,none⟩=some (.slice (some ⟨b,off,none⟩) len cap)) (hc:∀ j,j<len→W.cell? ⟨b,off+j,none⟩=some (.int .i64 (zs[j]?.getD 0))) (h0:J [] W) :
  CallsIn F n Tryz.prog 109 #[.func (.yield l) #[] #[],.pointer (some ⟨Bs,0,none⟩)] W fun e W'=>(∃ v,e=.returned v) ∧
   ((∃ ys,ys=upto (fun j=>zs[j]?.getD 0) len∧J ys W')∨(∃ pre,(∃ k,k≤len∧pre=upto (fun j=>zs[j]?.getD 0) k)∧Jx pre W')):=by
 refine callsIn_of_wp Tryz.func109 rfl h7 ?_ hro;simp only [Tryz.ntmps109,List.size_toArray,List.length_cons,List.length_nil,Nat.reduceAdd,Nat.reduceSub,Array.replicate_succ,Array.replicate_zero,List.push_toArray,List.append_toArray,List.nil_append,List.cons_append]
 gi_wp2
 gi_loopw [7] (fun i wr=>∃ k:Nat,k≤len∧i=.int .i64 k∧J (upto (fun j=>zs[j]?.getD 0) k) wr∧Below n₀ W wr)
  (fun i _=>len - (intOf i).toNat)
 case atStart=>exact ⟨0,Nat.zero_le _,rfl,h0,Below.refl _ _⟩
 case round =>
  obtain ⟨k,hk,rfl,LN,LO⟩:=hrel;have Vu:k<len→wr.cell? ⟨b,off+k,none⟩=some (.int .i64 (zs[k]?.getD 0)):=fun h=>(LO.cell (p:=⟨b,off+k,none⟩) hb).trans (hc k h)
  by_cases aJ:k<len
  ·obtain ⟨fn,tmps,assign,body,hy,hR⟩:=hY _ (zs[k]?.getD 0) wr LN (by rw [Aq]; exact aJ)
   have aae:=Vu aJ
   gi_wp2
   refine hR.mono ?_
   rintro e W3 (⟨rfl,Ry,Jk⟩ | ⟨rfl,LP⟩)
   ·gi_wp2
    go_roundw
    case rel=>exact ⟨k+1,by omega,by simp,by rw [wz]; exact Ry,LO.trans Jk⟩
    case measure=>simp [intOf]; omega
   ·gi_wp2
    refine bodyPost_ret (results_none rfl _ _ _) rfl ?_;exact ⟨⟨_,rfl⟩,.inr ⟨_,⟨k+1,by omega,(wz _ _).symm⟩,LP⟩⟩
  ·obtain rfl:k=len:=by omega
   gi_wp2
   go_end0
   exact ⟨⟨_,rfl⟩,.inl ⟨_,rfl,LN⟩⟩
def jd (n₀:Nat) (W:World) (sv:Value) (zs:List Int):Prop:=∃ b off cap,sv=.slice (some ⟨b,off,none⟩) zs.length cap∧b<n₀∧∀ j,j<zs.length→W.cell? ⟨b,off+j,none⟩=some (.int .i64 (zs[j]?.getD 0))
theorem jd.below {A B:World} (h:Below n₀ A B) {sv:Value} {zs:List Int}:jd n₀ A sv zs→jd n₀ B sv zs
 | ⟨b,off,cap,e,hb,hc⟩=>⟨b,off,cap,e,hb,fun j hj=>(h.cell (p:=⟨b,off+j,none⟩) hb).trans (hc j hj)⟩
theorem EV (F:Fence) (n:Nat) (h5:F.fn 86) (hro:F.round=none) (a:Option Addr) (len cap:Nat) (w:World) :
  CallsIn F n Tryz.prog 86 #[.slice a len cap] w fun e w'=>e=.returned (.func (.func 109) #[] #[.pointer (some ⟨w.heap.size,0,none⟩)])∧w'=w.alloc (.cells #[.slice a len cap] 25):=by
 refine callsIn_of_wp Tryz.func86 rfl h5 ?_ hro;simp only [Tryz.ntmps86,List.size_toArray,List.length_cons,List.length_nil,Nat.reduceAdd,Nat.reduceSub,Array.replicate_succ,Array.replicate_zero,List.push_toArray,List.append_toArray,List.nil_append,List.cons_append]
 gi_wp2
 go_ret;exact ⟨rfl,rfl⟩
theorem yz (F:Fence) (n:Nat) (h7:F.fn 109) (hro:F.round=none) (hn:1≤n) (Bs n₀:Nat) (sv:Value) (zs:List Int) (Ie:zs.length*8≤140737488351232) (w:World) (wD:Bs<w.heap.size) (Rz:n₀≤w.heap.size)
  (hc:w.cell? ⟨Bs,0,none⟩=some sv) (hI:jd n₀ w sv zs) :
  SeqStopsK F n Tryz.prog 109 #[.pointer (some ⟨Bs,0,none⟩)] (fun x:Int=>#[Value.int .i64 x]) (Below n₀) (fun ys=>ys=zs) (fun pre=>pre <+: zs) zs.length w:=fun l J Jx W hW _ _ hY h0=>by
 have OZ:=(hW.cell (p:=⟨Bs,0,none⟩) wD).trans hc;obtain ⟨b,off,cap,rfl,hb,vV⟩:=hI.below (hW.mono Rz);refine (Cq F n h7 hro hn l Bs n₀ b off zs.length cap zs Ie hb J Jx hY W OZ vV h0).mono ?_
 rintro e W' ⟨he,⟨ys,rfl,hj⟩ | ⟨pre,⟨k,hk,rfl⟩,hj⟩⟩
 ·exact ⟨he,.inl ⟨_,Jr zs,hj⟩⟩
 ·exact ⟨he,.inr ⟨_,by rw [ET zs hk]; exact List.take_prefix _ _,hj⟩⟩
theorem RB:(Tryz.prog.info? 3).map (fun i=>(i.zero,i.size,i.bytes))=some (some (.int .i64 0),1,8):=by kernel_rfl
theorem yA (F:Fence) (n:Nat) (h3:F.fn 125) (h5:F.fn 109) (hro:F.round=none) (hn:3≤n) (Bs:Nat) (sv:Value) (zs:List Int) (hlen:zs.length≤1000000) (w:World) (wD:Bs<w.heap.size) (cr:w.cell? ⟨Bs,0,none⟩=some sv) (hI:jd w.heap.size w sv zs) :
  CallsIn F n Tryz.prog 125 #[.slice none 0 0,.func (.func 109) #[] #[.pointer (some ⟨Bs,0,none⟩)]] w fun e W'=>∃ v,e=.returned v∧W'.ownsRow w.heap.size 3 1 v zs.length (zs.map (Value.int .i64))∧Below w.heap.size w W':=by
 have h1:1≤n:=by omega
 obtain ⟨i0,hi,dc,bM,eY⟩:=info_parts RB;refine callsIn_of_wp_marks Tryz.func125 rfl h3 ?_ hro;simp only [Tryz.ntmps125,List.size_toArray,List.length_cons,List.length_nil,Nat.reduceAdd,Nat.reduceSub,Array.replicate_succ,Array.replicate_zero,List.push_toArray,List.append_toArray,List.nil_append,List.cons_append]
 gi_wp2
 have bO:=Boxed.new w 25 (.slice none 0 0);have RC:Below w.heap.size w (w.alloc (.cells #[.slice none 0 0] 25)):=(Below.refl _ w).alloc (Nat.le_refl _) _
 refine wpIn_rangeFunc_ownG hro h1 (gf:=109) (lb:=#[.pointer (some ⟨Bs,0,none⟩)]) rfl h5 (enters_of Tryz.func109 (by kernel_rfl) rfl)
  (yz F (n - 1) h5 hro (by omega) Bs w.heap.size sv zs (by omega) _ (by simp; omega) (by simp) ((RC.cell (p:=⟨Bs,0,none⟩) wD).trans cr) (hI.below RC)) belowK_t (belowK_b (by simp)) (Below.refl _ _) (fun _=>rfl)
  (fun pre W=>(∃ v,Boxed W w.heap.size 25 v∧W.ownsRow w.heap.size 3 1 v pre.length (pre.map (Value.int .i64))∧(v=.slice none 0 0↔pre=[]))∧Below w.heap.size w W)
  (fun _ _ _=>False)
  (OwnFrom.and (Own.from (holdsRow_own w.heap.size w.heap.size 25 3 1 (fun pre=>pre.length) (fun pre=>pre.map (Value.int .i64)) (fun pre v=>v=.slice none 0 0↔pre=[])) _) (ownFrom_below (Nat.le_refl _) (by simp)))
  (fun _ _ _ _ _ hs _ _=>hs)
  ⟨⟨_,bO,World.ownsRow_nil _ _ _ _,by simp⟩,RC⟩
  (fun x=>{ tmps:=#[.slice none 0 0,.func (.func 109) #[] #[.pointer (some ⟨Bs,0,none⟩)],.pointer (some ⟨w.heap.size,0,none⟩),undef,.slice none 0 0,.int .i64 x,.func (.func 109) #[] #[.pointer (some ⟨Bs,0,none⟩)],.int .i64 x,undef,undef,undef,undef,undef],defers:=[] }) ?assign ?body ?done ?stop
 case assign =>
  intro l x W K hK
  gi_wp2
  exact hK
 case body =>
  rintro l pre x W ⟨⟨v,hv,bD,p4⟩,hB⟩ aJ;have hc:=hv.cell
  gi_wp2_with (gi_at_builtin; refine wpListIn_append_own _ rfl _ _ 25 rfl w.heap.size 3 i0 (.int .i64 0) 1 8 Tryz.underlying25 hi dc bM eY rfl (by decide) _ _ _ rfl (bD.alloc _) ⟨W.heap.size,0,none⟩ 1 1 [.int .i64 x] rfl rfl (cell_one_new _ _ _) (by simp [Value.oneCell']) (by unfold maxLen; omega) (by omega) (by have:=hB.size; simp; omega) ?_; intro v' w1 LQ RD _; obtain ⟨g',aaf,rfl⟩:=ownsRow_succ LQ; obtain ⟨uQ,Y2,iV,fD,df⟩:=hv.appended (by decide) bD hB.size (Nat.le_refl _) LQ RD; have eJ:=uQ.cell; have uV:=uQ.frozen)
  exact ⟨fD.from _,df,⟨_,Y2,by simpa using iV,by simp⟩,hB.trans df⟩
 case done =>
  rintro D ys W hD rfl ⟨⟨v,hv,bD,p4⟩,hB⟩ hK;have hc:=hv.cell
  gi_wp2
  refine ⟨by simp,.inl ⟨_,_,rfl,run_takeDeferred hK,?_⟩⟩;exact ⟨_,results_tmp rfl _ _ _,v,rfl,ownsRow_putObj bD _ hK rfl,hB.trans (belowK_b (w:=w) (Nat.le_refl _) W D _ _ (by simp at hD; omega) hK rfl rfl)⟩
 case stop =>
  rintro D c pre W _ _ h _;exact h.elim
end Go.Proofs.YtbngdgfmlmkgiaaGreat

namespace Go.Proofs.YtbngdgfmlmkgiaaGreat
open Go.RowKit
open Go.Proofs
open Go.Proofs.Ob
attribute [local irreducible] Go.Calls
theorem kY:Rg.lU Tryz.prog 59 4 (.bool false) 1:=⟨Tryz.underlying59,s9,rfl,by decide⟩
theorem fQ {o:Oper} {a:Act} {w:World} {v:Value} (t:TypeId) (x y:Operand) (ho:o.op=.makeSlice t x y) (n m:Value) (hx:a.eval x=n) (hy:a.eval y=m) (hr:(Instr.makeSlice t n m).run Tryz.prog w=.ok v w'):(execOp a.eval o).run Tryz.prog w=.ok (.value v) w':=by
 unfold execOp;simp only [ho,hx,hy,Sem.run_bind,Sem.run_pure,hr,Result.andThen_ok]
theorem O0 (w:World) (n:Nat):(w.alloc (.cells (madeCells #[.bool false] n) 4)).rowIs w.heap.size 4 n (fun _=>.bool false):=World.rowIs_made w (.bool false) n 4

theorem rX (v:Value) (l:List Int) (w:World) (h:Rg.Ints w v l) (hl:l.length≤1000000) :
  Calls Tryz.prog 103 #[v] w fun e w'=>∃ v',e=.returned v'∧w'.ownsRow w.heap.size 3 1 v' l.length (l.map (Value.int .i64))∧Below w.heap.size w w':=by
 obtain ⟨la,lc,rfl,_⟩:=h.shape;have HI:=ι h;have K:=ι (Below.refl w.heap.size w);clear h
 go_enter Tryz.func103,Tryz.ntmps103
 go_upto_region 1 with fail;refine b6 ?_;have bA:=pX.new (B:=w.heap.size) w (Nat.le_refl _);refine i8 (Rg.fI aX rfl w) ?_;go_frame;have hb:=(Below.refl w.heap.size w).alloc (Nat.le_refl _) (.cells #[] 3);generalize w.alloc (.cells #[] 3)=w1 at *;replace HI:=ι (HI.out.below hb);replace K:=ι (Rg.acc K.out hb);clear hb;have FO:=ι bA;refine i5 rfl ?_;go_frame;obtain ⟨v5,X5,r1,r2,r3⟩:=Rg.mz (P:=Tryz.prog) aX 25 FO.out.1 K.out.size HI.out jX (by rw [List.length_map]; omega)
 refine i8 (Rg.aP _ _ _ rfl rfl rfl r1)<|i3 (v5) rfl ?_;go_frame
 rw [List.length_map,Nat.zero_add,List.nil_append] at r2;have R2:=ι r2;have K5:=ι (K.out.grown r3 K.out.size (fun j hj=>(FO.out.1.lt j hj).1));clear r1 r2 r3 FO;go_wp2;go_ret;exact ⟨_,rfl,R2.out,K5.out⟩
theorem eG.grown {b:Nat} {w:World} {v:Value} (h:eG B w v ll) (hg:w.grownBy W (some b)) (hb:b<B):eG B W v ll :=
 h.keep hg.size fun b2 o h1 h2=>World.cell?_of_block (a:=⟨b2,o,none⟩) (hg.block b2 h2 (fun e=>by simp at e; omega))
end Go.Proofs.YtbngdgfmlmkgiaaGreat

namespace Go.Proofs.YtbngdgfmlmkgiaaGreat
open Go.RowKit
open Go.Proofs
attribute [local irreducible] Go.Calls
theorem nw:(Tryz.prog.info? 54).map (fun i=>(i.zero,i.size,i.bytes))=some (some (.agg #[.int .i64 0,.slice none 0 0,.slice none 0 0]),3,56):=by kernel_rfl
structure dh (w:World) (b:Nat) (x y z:Value):Prop where
 c0:w.cell? ⟨b,0,none⟩=some x
 c1:w.cell? ⟨b,1,none⟩=some y
 c2:w.cell? ⟨b,2,none⟩=some z
 f0:w.frozen? ⟨b,0,none⟩=false
 f1:w.frozen? ⟨b,1,none⟩=false
 f2:w.frozen? ⟨b,2,none⟩=false
 lt:b<w.heap.size
theorem dh.upto {w:World} {b:Nat} {x y:Value} (h:dh w b x y z) (hb:Below B w w') (hB:b<B):dh w' b x y z :=
 ⟨(hb.cell (p:=⟨b,0,none⟩) hB).trans h.c0,(hb.cell (p:=⟨b,1,none⟩) hB).trans h.c1,(hb.cell (p:=⟨b,2,none⟩) hB).trans h.c2,(hb.frozen (p:=⟨b,0,none⟩) hB).trans h.f0,(hb.frozen (p:=⟨b,1,none⟩) hB).trans h.f1,(hb.frozen (p:=⟨b,2,none⟩) hB).trans h.f2,Nat.lt_of_lt_of_le h.lt hb.size⟩
theorem dh.below {w:World} {b:Nat} {x y:Value} (h:dh w b x y z) (hb:Below w.heap.size w w'):dh w' b x y z:=h.upto hb h.lt
theorem dh.kp {w:World} {b:Nat} {x y:Value} (h:dh w b x y z) (hk:Rg.Kp M w w') (hM:¬ M b):dh w' b x y z:=by
 have e:=hk.block b h.lt hM;exact ⟨(World.cell?_of_block (a:=⟨b,0,none⟩) e).trans h.c0,(World.cell?_of_block (a:=⟨b,1,none⟩) e).trans h.c1,(World.cell?_of_block (a:=⟨b,2,none⟩) e).trans h.c2,(World.frozen?_of_block (a:=⟨b,0,none⟩) e).trans h.f0,(World.frozen?_of_block (a:=⟨b,1,none⟩) e).trans h.f1,(World.frozen?_of_block (a:=⟨b,2,none⟩) e).trans h.f2,Nat.lt_of_lt_of_le h.lt hk.size⟩
theorem dh.new (w:World) (x y z:Value):dh (w.alloc (.cells #[x,y,z] 54)) w.heap.size x y z :=
 ⟨by rw [Rg.aM]; rfl,by rw [Rg.aM]; rfl,by rw [Rg.aM]; rfl,dv _ _ _ 0 _,dv _ _ _ 0 _,dv _ _ _ 0 _,by simp⟩
theorem bC {w:World} {b:Nat} (d:Int) (a:Option Addr) (n c:Nat) (a':Option Addr) (n' c':Nat) (h:dh w b u1 u2 u3) :
  (storeVar 54 ⟨b,0,none⟩ (.agg #[.int .i64 d,.slice a n c,.slice a' n' c'])).run Tryz.prog w=.ok () (((w.setCell ⟨b,0,none⟩ (.int .i64 d)).setCell ⟨b,1,none⟩ (.slice a n c)).setCell ⟨b,2,none⟩ (.slice a' n' c')):=by
 obtain ⟨i0,hi,dc,bM,eY⟩:=info_parts nw
 have g2:(w.setCell ⟨b,0,none⟩ (.int .i64 d)).cell? ⟨b,1,none⟩=some u2:=by
  rw [World.cell?_setCell_other (h:=by intro e; injection e with e1 e2; omega) ..]
  exact h.c1
 have gf:(w.setCell ⟨b,0,none⟩ (.int .i64 d)).frozen? ⟨b,1,none⟩=false:=by rw [World.frozen?_setCell]; exact h.f1
 have g3:((w.setCell ⟨b,0,none⟩ (.int .i64 d)).setCell ⟨b,1,none⟩ (.slice a n c)).cell? ⟨b,2,none⟩=some u3:=by
  rw [World.cell?_setCell_other (h:=by intro e; injection e with e1 e2; omega) ..,World.cell?_setCell_other (h:=by intro e; injection e with e1 e2; omega) ..]
  exact h.c2
 have Y3:((w.setCell ⟨b,0,none⟩ (.int .i64 d)).setCell ⟨b,1,none⟩ (.slice a n c)).frozen? ⟨b,2,none⟩=false:=by rw [World.frozen?_setCell,World.frozen?_setCell]; exact h.f2
 have z6:(⟨b,0,none⟩:Addr).add 0=⟨b,0,none⟩:=by simp [Addr.add]
 have s_:(⟨b,0,none⟩:Addr).add 1=⟨b,1,none⟩:=by simp [Addr.add]
 have tG:(⟨b,0,none⟩:Addr).add 2=⟨b,2,none⟩:=by simp [Addr.add]
 simp [storeVar,sizeOf,typeInfo,hi,bM,Value.cells,storeCells,store,z6,s_,tG];simp [Sem.run,h.c0,h.f0,g2,gf,g3,Y3]
theorem dh.set {w:World} {b:Nat} (h:dh w b u1 u2 u3) (x y z:Value):dh (((w.setCell ⟨b,0,none⟩ x).setCell ⟨b,1,none⟩ y).setCell ⟨b,2,none⟩ z) b x y z:=by
 have s1:(w.setCell ⟨b,0,none⟩ x).cell? ⟨b,0,none⟩=some x:=World.cell?_setCell_same (h:=h.c0) ..
 have s2:(w.setCell ⟨b,0,none⟩ x).cell? ⟨b,1,none⟩=some u2:=by
  rw [World.cell?_setCell_other (h:=by intro e; injection e with e1 e2; omega) ..]; exact h.c1
 have s3:((w.setCell ⟨b,0,none⟩ x).setCell ⟨b,1,none⟩ y).cell? ⟨b,2,none⟩=some u3:=by
  rw [World.cell?_setCell_other (h:=by intro e; injection e with e1 e2; omega) ..,World.cell?_setCell_other (h:=by intro e; injection e with e1 e2; omega) ..]; exact h.c2
 refine ⟨?_,?_,World.cell?_setCell_same (h:=s3) ..,?_,?_,?_,by simpa using h.lt⟩
 ·rw [World.cell?_setCell_other (h:=by intro e; injection e with e1 e2; omega) ..,World.cell?_setCell_other (h:=by intro e; injection e with e1 e2; omega) ..]; exact s1
 ·rw [World.cell?_setCell_other (h:=by intro e; injection e with e1 e2; omega) ..]; exact World.cell?_setCell_same (h:=s2) ..
 ·rw [World.frozen?_setCell,World.frozen?_setCell,World.frozen?_setCell]; exact h.f0
 ·rw [World.frozen?_setCell,World.frozen?_setCell,World.frozen?_setCell]; exact h.f1
 ·rw [World.frozen?_setCell,World.frozen?_setCell,World.frozen?_setCell]; exact h.f2
theorem dh.RE {w:World} {b:Nat} (h:dh w b u1 u2 u3) (y z:Value):dh ((w.setCell ⟨b,1,none⟩ y).setCell ⟨b,2,none⟩ z) b u1 y z:=by
 have s3:(w.setCell ⟨b,1,none⟩ y).cell? ⟨b,2,none⟩=some u3:=by
  rw [World.cell?_setCell_other (h:=by intro e; injection e with e1 e2; omega) ..]; exact h.c2
 refine ⟨?_,?_,World.cell?_setCell_same (h:=s3) ..,?_,?_,?_,by simpa using h.lt⟩
 ·rw [World.cell?_setCell_other (h:=by intro e; injection e with e1 e2; omega) ..,World.cell?_setCell_other (h:=by intro e; injection e with e1 e2; omega) ..]; exact h.c0
 ·rw [World.cell?_setCell_other (h:=by intro e; injection e with e1 e2; omega) ..]; exact World.cell?_setCell_same (h:=h.c1) ..
 ·rw [World.frozen?_setCell,World.frozen?_setCell]; exact h.f0
 ·rw [World.frozen?_setCell,World.frozen?_setCell]; exact h.f1
 ·rw [World.frozen?_setCell,World.frozen?_setCell]; exact h.f2
theorem nx {w:World} {b:Nat} {x y:Value} (h:dh w b x y z):(loadVar 54 ⟨b,0,none⟩).run Tryz.prog w=.ok (.agg #[x,y,z]) w:=by
 obtain ⟨i0,hi,dc,bM,eY⟩:=info_parts nw
 have z6:(⟨b,0,none⟩:Addr).add 0=⟨b,0,none⟩:=by simp [Addr.add]
 have s_:(⟨b,0,none⟩:Addr).add 1=⟨b,1,none⟩:=by simp [Addr.add]
 have tG:(⟨b,0,none⟩:Addr).add 2=⟨b,2,none⟩:=by simp [Addr.add]
 have hg:(isAgg 54).run Tryz.prog w=.ok true w:=by kernel_rfl
 simp [loadVar,hg,sizeOf,typeInfo,hi,bM,loadCells,loadCellsFrom,load,z6,s_,tG];simp [Sem.run,h.c0,h.c1,h.c2]
theorem oQ {fn:Func} {p:Go.Tmp} (h:fn.results=#[.cell p 54]) (tmps:Array Value) {w:World} {b:Nat} {x y:Value} (hp:tmps.getD p undef=.pointer (some ⟨b,0,none⟩)) (h1:dh w b x y z) :
  (results fn tmps).run Tryz.prog w=.ok (.agg #[x,y,z]) w:=by
 have rE:tmps[p]?.getD undef=.pointer (some ⟨b,0,none⟩):=by simpa using hp
 simp [results,h,rE,asAddr,nx h1]
theorem bT {fn:Func} {p u:Go.Tmp} (h:fn.results=#[.cell p 54,.tmp u]) (tmps:Array Value) {w:World} {b:Nat} {x y v:Value} (hp:tmps.getD p undef=.pointer (some ⟨b,0,none⟩)) (hu:tmps.getD u undef=v) (h1:dh w b x y z) :
  (results fn tmps).run Tryz.prog w=.ok (.tuple #[.agg #[x,y,z],v]) w:=by
 rw [results_cell_tmp h,hp,hu];simp [asAddr,nx h1,Result.andThen]
theorem cz {o:Oper} {a:Act} {w:World} (ho:o.op=.alloc 54):(execOp a.eval o).run Tryz.prog w=.ok (.value (.pointer (some ⟨w.heap.size,0,none⟩))) (w.alloc (.cells #[.int .i64 0,.slice none 0 0,.slice none 0 0] 54)):=by
 obtain ⟨i0,hi,dc,bM,eY⟩:=info_parts nw;unfold execOp;simp [ho,Instr.alloc,typeInfo,zeroValue,hi,dc,newVar,Value.cells,Result.andThen];rfl
theorem p5 {o:Oper} {a:Act} {w:World} (x:Operand) (ho:o.op=.build 54 #[(0,x)]) (hx:a.eval x=.int .i64 d) :
  (execOp a.eval o).run Tryz.prog w=.ok (.value (.agg #[.int .i64 d,.slice none 0 0,.slice none 0 0])) w:=by
 unfold execOp;simp only [ho,Sem.run_bind,Sem.run_pure];simp only [List.map_toArray,List.map_cons,List.map_nil,hx]
 have h:(Instr.build 54 #[(0,.int .i64 d)]).run Tryz.prog w=.ok (.agg #[.int .i64 d,.slice none 0 0,.slice none 0 0]) w:=by kernel_rfl
 first | (rw [h]; rfl) | (erw [h]; rfl)
theorem eZ {o:Oper} {a:Act} {w:World} (ho:o.op=.build 54 #[]) :
  (execOp a.eval o).run Tryz.prog w=.ok (.value (.agg #[.int .i64 0,.slice none 0 0,.slice none 0 0])) w:=by
 unfold execOp;simp only [ho,Sem.run_bind,Sem.run_pure]
 have h:(Instr.build 54 #[]).run Tryz.prog w=.ok (.agg #[.int .i64 0,.slice none 0 0,.slice none 0 0]) w:=by kernel_rfl
 first | (simp [h,Result.andThen]) | (rw [h]; rfl) | (erw [h]; rfl)
theorem dD (b:Nat) (w:World):(Instr.fieldAt 54 (.pointer (some ⟨b,0,none⟩)) 0).run Tryz.prog w=.ok (.pointer (some ⟨b,0,none⟩)) w:=by kernel_rfl
theorem cq (b:Nat) (w:World):(Instr.fieldAt 54 (.pointer (some ⟨b,0,none⟩)) 1).run Tryz.prog w=.ok (.pointer (some ⟨b,1,none⟩)) w:=by kernel_rfl
theorem dE (b:Nat) (w:World):(Instr.fieldAt 54 (.pointer (some ⟨b,0,none⟩)) 2).run Tryz.prog w=.ok (.pointer (some ⟨b,2,none⟩)) w:=by kernel_rfl
theorem wE:(Tryz.prog.info? 51).map (fun i=>(i.zero,i.size,i.bytes))=some (some (.slice none 0 0),1,24):=by kernel_rfl
theorem uA:(Tryz.prog.info? 52).map (fun i=>(i.zero,i.size,i.bytes))=some (some (.slice none 0 0),1,24):=by kernel_rfl
theorem bV:Rg.lU Tryz.prog 52 22 (.slice none 0 0) 24:=⟨Tryz.underlying52,gO,rfl,by decide⟩
theorem p6 (X:World) (u:Value) (hs:∃ a n c,u=.slice a n c):(Instr.buildSlice 52 1 #[(0,u)]).run Tryz.prog X=.ok (.slice (some ⟨X.heap.size,0,none⟩) 1 1) (X.alloc (.cells #[u] 22)):=by
 obtain ⟨i0,hi,dc,bM,eY⟩:=info_parts gO;obtain ⟨a,n,c,rfl⟩:=hs;refine run_buildSlice X 52 22 1 _ _ i0 _ Tryz.underlying52 hi dc (by rw [bM]; decide) (by rw [bM]; decide) ?_;generalize (fun x=>((Value.slice none 0 0).cells)[x % (Value.slice none 0 0).cells.size]!)=f;rw [bM];have h1:Array.range (1*1)=#[0]:=rfl;simp [Instr.fill,Value.cells,h1]
end Go.Proofs.YtbngdgfmlmkgiaaGreat

namespace Go.Proofs.YtbngdgfmlmkgiaaGreat
open Go.RowKit
open Go.Proofs
theorem bs.kp {F M:Nat→Prop} {w w':World} {v:Value} {ll:List (List Int)} (h:Rg.bs F w v ll) (hk:Rg.Kp M w w') (hF:∀ k,F k→¬ M k):Rg.bs F w' v ll:=by
 obtain ⟨us,h1,h2⟩:=h;exact ⟨us,h1.kp hk hF,h2.kp hk hF⟩
theorem bs.mono {F F':Nat→Prop} {w:World} {v:Value} {ll:List (List Int)} (h:Rg.bs F w v ll) (hF:∀ k,F k→F' k):Rg.bs F' w v ll:=by
 obtain ⟨us,h1,h2⟩:=h;exact ⟨us,h1.mono hF,h2.mono hF⟩
theorem bs.rows {w:World} {v:Value} (h:Rg.bs F w v ll):Rg.Rows w v ll:=by
 obtain ⟨us,h1,h2⟩:=h;exact ⟨us,h1.zd,h2.1,fun i a b=>(h2.2 i a b).ints⟩
theorem bN.kp {F M:Nat→Prop} {w w':World} {us:List Value} {ll:List (List (List Int))} (h:Rg.bN F w us ll) (hk:Rg.Kp M w w') (hF:∀ k,F k→¬ M k):Rg.bN F w' us ll:=⟨h.1,fun i a b=>bs.kp (h.2 i a b) hk hF⟩
theorem bN.mono {F F':Nat→Prop} {w:World} {us:List Value} {ll:List (List (List Int))} (h:Rg.bN F w us ll) (hF:∀ k,F k→F' k):Rg.bN F' w us ll:=⟨h.1,fun i a b=>bs.mono (h.2 i a b) hF⟩
theorem br.snoc {w:World} {us:List Value} {u:Value} (h:Rg.br F w us ll) (hu:Rg.FI F w u l):Rg.br F w (us++[u]) (ll++[l]):=by
 refine ⟨by simp [h.1],fun i a b=>?_⟩
 by_cases e:i<us.length
 ·have e2:i<ll.length:=by rw [← h.1]; exact e
  rw [List.getElem_append_left e,List.getElem_append_left e2];exact h.2 i e e2
 ·have e1:i=us.length:=by simp at a; omega
  subst e1;have hl:=h.1;simp [hl];exact hu
theorem bN.snoc {w:World} {us:List Value} {ll:List (List (List Int))} {u:Value} {l:List (List Int)} (h:Rg.bN F w us ll) (hu:Rg.bs F w u l):Rg.bN F w (us++[u]) (ll++[l]):=by
 refine ⟨by simp [h.1],fun i a b=>?_⟩
 by_cases e:i<us.length
 ·have e2:i<ll.length:=by rw [← h.1]; exact e
  rw [List.getElem_append_left e,List.getElem_append_left e2];exact h.2 i e e2
 ·have e1:i=us.length:=by simp at a; omega
  subst e1;have hl:=h.1;simp [hl];exact hu
def iJ (B:Nat) (W:World) (tc:Nat) (ov rv:Value) (k:Nat):Prop:=B≤k∧k<W.heap.size∧ov.ownBlock≠some k∧rv.ownBlock≠some k∧k≠tc
structure fE (B:Nat) (W:World) (tc:Nat) (c0 c1 c2 ov rv:Value) (O:List (List Int)) (R:List (List (List Int))):Prop where
 j0:dh W tc c0 c1 c2
 low:B≤tc
 own:∃ us vs,W.ownsRow B 25 1 ov O.length us∧W.ownsRow B 22 1 rv R.length vs∧Rg.br (iJ B W tc ov rv) W us O∧Rg.bN (iJ B W tc ov rv) W vs R
 apart:∀ k,ov.ownBlock=some k→rv.ownBlock≠some k
 ot:ov.ownBlock≠some tc
 rt:rv.ownBlock≠some tc
theorem iJ.up (h:iJ B W tc ov rv k) (hs:W.heap.size≤W'.heap.size):iJ B W' tc ov rv k:=⟨h.1,Nat.lt_of_lt_of_le h.2.1 hs,h.2.2⟩
theorem fE.below {B:Nat} {W W':World} {tc:Nat} {c0 c1 c2 ov rv:Value} {O:List (List Int)} {R:List (List (List Int))} (h:fE B W tc c0 c1 c2 ov rv O R) (hb:Below W.heap.size W W'):fE B W' tc c0 c1 c2 ov rv O R:=by
 obtain ⟨us,vs,h1,h2,h3,h4⟩:=h.own;have hk:Rg.Kp (fun _=>False) W W':=Rg.Kp.aK hb;exact ⟨h.j0.below hb,h.low,⟨us,vs,Rg.aQ h1 hb,Rg.aQ h2 hb,(h3.kp hk (fun _ _=>id)).mono (fun k hk=>hk.up hb.size),bN.mono (bN.kp h4 hk (fun _ _=>id)) (fun k hk=>hk.up hb.size)⟩,h.apart,h.ot,h.rt⟩
theorem fE.start {c0 c1 c2:Value} (ht:dh W tc c0 c1 c2) (hl:B≤tc):fE B W tc c0 c1 c2 (.slice none 0 0) (.slice none 0 0) [] [] :=
 ⟨ht,hl,⟨[],[],World.ownsRow_nil _ _ _ _,World.ownsRow_nil _ _ _ _,Rg.br.nil _ _,⟨rfl,fun i h=>by simp at h⟩⟩,fun k h=>by simp [Value.ownBlock] at h,by simp [Value.ownBlock],by simp [Value.ownBlock]⟩
theorem fE.yB {c0 c1 c2:Value} {O:List (List Int)} {R:List (List (List Int))} (h:fE B W tc c0 c1 c2 ov rv O R):(∀ k,ov.ownBlock=some k→B≤k∧k<W.heap.size)∧(∀ k,rv.ownBlock=some k→B≤k∧k<W.heap.size):=by
 obtain ⟨us,vs,h1,h2,_⟩:=h.own;exact ⟨fun k e=>h1.lt k e,fun k e=>h2.lt k e⟩
theorem fE.nu {c0 c1 c2:Value} {O:List (List Int)} {R:List (List (List Int))} (h:fE B W tc c0 c1 c2 ov rv O R) (hB:B≤W.heap.size) {x:Value} (hx:Rg.FI (iJ B W tc ov rv) W x l) (hs:x.oneCell'=true) (hO:O.length<1000000) {p:Nat} (hp:W.cell? ⟨p,0,none⟩=some x) (ty:TypeId) :
  ∃ a c X,(Builtin.append_ #[51,51] ty #[ov,.slice (some ⟨p,0,none⟩) 1 1]).run Tryz.prog W=.ok (.slice a (O.length+1) c) X∧fE B X tc c0 c1 c2 (.slice a (O.length+1) c) rv (O++[l]) R∧W.grownBy X ov.ownBlock ∧
   (∀ k,iJ B W tc ov rv k→iJ B X tc (.slice a (O.length+1) c) rv k):=by
 obtain ⟨us,vs,h1,h2,h3,h4⟩:=h.own;obtain ⟨v',X,r1,r2,r3,r4,a,c,rfl⟩:=cR (P:=Tryz.prog) bF ty h1 hB p 1 hp hs hO;have hk:Rg.Kp (fun k=>ov.ownBlock=some k) W X:=Rg.Kp.cH r3 fun _ e=>e
 have hm:∀ k,iJ B W tc ov rv k→iJ B X tc (.slice a (O.length+1) c) rv k:=fun k g=>by
  refine ⟨g.1,Nat.lt_of_lt_of_le g.2.1 hk.size,fun e=>?_,g.2.2.2⟩
  rcases r4 with r4 | r4
  ·rw [r4] at e; exact g.2.2.1 e
  ·rw [r4] at e; injection e with e; have:=g.2.1; omega
 have hg:∀ k,iJ B W tc ov rv k→¬ ov.ownBlock=some k:=fun k g=>g.2.2.1;refine ⟨a,c,X,r1,⟨h.j0.kp hk h.ot,h.low,⟨us++[x],vs,by rw [List.length_append]; exact r2,gM h2 hk (fun k e e2=>h.apart k e e2),(br.snoc (h3.kp hk hg) (hx.kp hk hg)).mono hm,bN.mono (bN.kp h4 hk hg) hm⟩,fun k e e2=>?_,fun e=>?_,h.rt⟩,r3,hm⟩
 ·rcases r4 with r4 | r4
  ·rw [r4] at e; exact h.apart k e e2
  ·rw [r4] at e; injection e with e; have:=(h.yB.2 k e2).2; omega
 ·rcases r4 with r4 | r4
  ·rw [r4] at e; exact h.ot e
  ·rw [r4] at e; injection e with e; have:=h.j0.lt; omega
theorem fE.LS {c0 c1 c2:Value} {O:List (List Int)} {R:List (List (List Int))} (h:fE B W tc c0 c1 c2 ov rv O R) (hB:B≤W.heap.size) {x:Value} {l:List (List Int)} (hx:Rg.bs (iJ B W tc ov rv) W x l) (hs:x.oneCell'=true) (hR:R.length<1000000) {p:Nat} (hp:W.cell? ⟨p,0,none⟩=some x) (ty:TypeId) :
  ∃ a c X,(Builtin.append_ #[52,52] ty #[rv,.slice (some ⟨p,0,none⟩) 1 1]).run Tryz.prog W=.ok (.slice a (R.length+1) c) X∧fE B X tc c0 c1 c2 ov (.slice a (R.length+1) c) O (R++[l])∧W.grownBy X rv.ownBlock:=by
 obtain ⟨us,vs,h1,h2,h3,h4⟩:=h.own;obtain ⟨v',X,r1,r2,r3,r4,a,c,rfl⟩:=cR (P:=Tryz.prog) bV ty h2 hB p 1 hp hs hR;have hk:Rg.Kp (fun k=>rv.ownBlock=some k) W X:=Rg.Kp.cH r3 fun _ e=>e
 have hm:∀ k,iJ B W tc ov rv k→iJ B X tc ov (.slice a (R.length+1) c) k:=fun k g=>by
  refine ⟨g.1,Nat.lt_of_lt_of_le g.2.1 hk.size,g.2.2.1,fun e=>?_,g.2.2.2.2⟩
  rcases r4 with r4 | r4
  ·rw [r4] at e; exact g.2.2.2.1 e
  ·rw [r4] at e; injection e with e; have:=g.2.1; omega
 have hg:∀ k,iJ B W tc ov rv k→¬ rv.ownBlock=some k:=fun k g=>g.2.2.2.1;refine ⟨a,c,X,r1,⟨h.j0.kp hk h.rt,h.low,⟨us,vs++[x],gM h1 hk (fun k e e2=>h.apart k e2 e),by rw [List.length_append]; exact r2,(h3.kp hk hg).mono hm,bN.mono (bN.snoc (bN.kp h4 hk hg) (bs.kp hx hk hg)) hm⟩,fun k e e2=>?_,h.ot,fun e=>?_⟩,r3⟩
 ·rcases r4 with r4 | r4
  ·rw [r4] at e2; exact h.apart k e e2
  ·rw [r4] at e2; injection e2 with e2; have:=(h.yB.1 k e).2; omega
 ·rcases r4 with r4 | r4
  ·rw [r4] at e; exact h.rt e
  ·rw [r4] at e; injection e with e; have:=h.j0.lt; omega
theorem fE.store {c0 c1 c2:Value} {O:List (List Int)} {R:List (List (List Int))} (h:fE B W tc c0 c1 c2 ov rv O R) (y z:Value) :
  fE B ((W.setCell ⟨tc,1,none⟩ y).setCell ⟨tc,2,none⟩ z) tc c0 y z ov rv O R:=by
 obtain ⟨us,vs,h1,h2,h3,h4⟩:=h.own;have hk:Rg.Kp (fun k=>k=tc) W ((W.setCell ⟨tc,1,none⟩ y).setCell ⟨tc,2,none⟩ z):=Rg.Kp.trans (Rg.Kp.aS (M:=fun k=>k=tc) rfl) (Rg.Kp.aS (M:=fun k=>k=tc) rfl) (fun _ _ e=>e);have hg:∀ k,iJ B W tc ov rv k→¬ k=tc:=fun k g=>g.2.2.2.2;have hm:∀ k,iJ B W tc ov rv k→iJ B ((W.setCell ⟨tc,1,none⟩ y).setCell ⟨tc,2,none⟩ z) tc ov rv k:=fun k g=>g.up hk.size;exact ⟨h.j0.RE y z,h.low,⟨us,vs,gM h1 hk (fun k e e2=>h.ot (e▸e2)),gM h2 hk (fun k e e2=>h.rt (e▸e2)),(h3.kp hk hg).mono hm,bN.mono (bN.kp h4 hk hg) hm⟩,h.apart,h.ot,h.rt⟩
def fL (w:World) (v:Value) (l7:List (List (List Int))):Prop:=∃ us,Rg.cu w v us∧us.length=l7.length∧∀ i (h:i<us.length) (h2:i<l7.length),Rg.Rows w us[i] l7[i]
theorem fL.below {w w':World} {v:Value} {l7:List (List (List Int))} (h:fL w v l7) (hb:Below w.heap.size w w'):fL w' v l7:=by
 obtain ⟨us,h1,h2,h3⟩:=h;exact ⟨us,Rg.iT.below h1 hb,h2,fun i a b=>(h3 i a b).below hb⟩
end Go.Proofs.YtbngdgfmlmkgiaaGreat

namespace Go.Proofs.YtbngdgfmlmkgiaaGreat
open Go.RowKit
open Go.Proofs
attribute [local irreducible] Go.Calls
theorem RG (args:Array Value) (w:World):(callFunc 125 args).run Tryz.prog w=.ok (.enter 125 args) w:=by kernel_rfl
theorem RH (args:Array Value) (w:World):(callFunc 107 args).run Tryz.prog w=.ok (.enter 107 args) w:=by kernel_rfl
theorem RJ (args:Array Value) (w:World):(callFunc 108 args).run Tryz.prog w=.ok (.enter 108 args) w:=by kernel_rfl
theorem EZ (v:Value) (l:List Int) (w:World) (h:Rg.Ints w v l) (h1:1≤l.length) (hl:l.length≤1000000) :
  Calls Tryz.prog 87 #[v] w fun e w'=>∃ v',e=.returned v'∧w'.ownsRow w.heap.size 3 1 v' l.length (l.map (Value.int .i64))∧Below w.heap.size w w':=by
 obtain ⟨la,lc,rfl,_,_,_,hs⟩:=h.shape;obtain ⟨b,o,rfl,_⟩:=hs (by omega);have HI:=ι h;have K:=ι (Below.refl w.heap.size w);clear h hs
 go_enter Tryz.func87,Tryz.ntmps87
 go_upto_region 1 with fail
 refine b6<|i5 rfl<|i8 (jJ _ _ rfl rfl rfl) ?_;go_frame
 go_upto_region 3 with fail;refine b6 ?_;have bA:=pX.new (B:=w.heap.size) w (Nat.le_refl _);refine i8 (Rg.fI bK rfl w) ?_;go_frame;have hb:=(Below.refl w.heap.size w).alloc (Nat.le_refl _) (.cells #[] 3);generalize w.alloc (.cells #[] 3)=w1 at *;replace HI:=ι (HI.out.below hb);replace K:=ι (Rg.acc K.out hb);clear hb;have FO:=ι bA;refine i5 rfl ?_;go_frame;obtain ⟨v5,X5,r1,r2,r3⟩:=Rg.mz (P:=Tryz.prog) bK 26 FO.out.1 K.out.size HI.out jX (by rw [List.length_map]; omega)
 refine i8 (Rg.aP _ _ _ rfl rfl rfl r1)<|i3 (v5) rfl ?_;go_frame
 rw [List.length_map,Nat.zero_add,List.nil_append] at r2;have R2:=ι r2;have K5:=ι (K.out.grown r3 K.out.size (fun j hj=>(FO.out.1.lt j hj).1));clear r1 r2 r3 FO;go_wp2;go_ret;exact ⟨_,rfl,R2.out,K5.out⟩
theorem Ar (Bs:Nat) (sv:Value) (zs:List Int) (hlen:zs.length≤1000000) (w:World) (wD:Bs<w.heap.size) (cr:w.cell? ⟨Bs,0,none⟩=some sv) (hI:jd w.heap.size w sv zs) :
  Calls Tryz.prog 107 #[.func (.func 109) #[] #[.pointer (some ⟨Bs,0,none⟩)]] w fun e w'=>∃ v,e=.returned v∧w'.ownsRow w.heap.size 3 1 v zs.length (zs.map (Value.int .i64))∧Below w.heap.size w w':=by
 have Cr:=callsIn_wide.1 (yA Fence.wide 3 trivial trivial rfl (by omega) Bs sv zs hlen w wD cr hI);clear wD cr hI
 go_enter Tryz.func107,Tryz.ntmps107
 go_upto_region 1 with fail
 refine b6<|i3 (.func (.func 109) #[] #[.pointer (some ⟨Bs,0,none⟩)]) rfl ?_;go_frame
 refine d4 4 (aD 125 _ _ _ rfl rfl rfl (RG _ _)) ?_;refine (Cr).mono ?_;rintro e1 w1 ⟨v,rfl,bD,hb⟩;have R:=ι bD;have KB:=ι hb;refine ⟨_,rfl,?_⟩;go_frame;clear hb;refine i3 (v) rfl ?_;go_frame;clear Cr bD;go_wp2;go_ret;exact ⟨_,rfl,R.out,KB.out⟩
theorem Cs (Bs:Nat) (sv:Value) (zs:List Int) (h1:1≤zs.length) (hlen:zs.length≤1000000) (w:World) (wD:Bs<w.heap.size) (cr:w.cell? ⟨Bs,0,none⟩=some sv) (hI:jd w.heap.size w sv zs) :
  Calls Tryz.prog 85 #[.func (.func 109) #[] #[.pointer (some ⟨Bs,0,none⟩)]] w fun e w'=>∃ v,e=.returned v∧w'.ownsRow w.heap.size 3 1 v zs.length ((Ob.pQ zs).map (Value.int .i64))∧Below w.heap.size w w':=by
 have Cr:=Ar Bs sv zs hlen w wD cr hI;clear wD cr hI
 go_enter Tryz.func85,Tryz.ntmps85
 go_upto_region 1 with fail
 refine b6<|i3 (.func (.func 109) #[] #[.pointer (some ⟨Bs,0,none⟩)]) rfl ?_;go_frame
 refine d4 5 (aq 107 _ _ rfl rfl (RH _ _)) ?_;refine (Cr).mono ?_;rintro e1 w1 ⟨v,rfl,bD,hb⟩;have R:=ι bD;have KB:=ι hb;refine ⟨_,rfl,?_⟩;go_frame;clear hb;refine i3 (v) rfl ?_;go_frame;clear Cr bD;go_upto_region 2 with fail
 refine b6<|i3 (v) rfl ?_;go_frame
 refine d4 7 (aq 108 _ _ rfl rfl (RJ _ _)) ?_;refine (Ja w.heap.size zs.length v zs w1 R.out h1 (by omega)).mono ?_;rintro e1 w2 ⟨⟨r,rfl⟩,LU,nY⟩;have R2:=ι LU;have K2:=ι (KB.out.grown nY KB.out.size (fun j hj=>(R.out.lt j hj).1));refine ⟨_,rfl,?_⟩;go_frame;clear nY;clear LU;go_wp2;go_ret;exact ⟨_,rfl,R2.out,K2.out⟩
end Go.Proofs.YtbngdgfmlmkgiaaGreat

namespace Go.Proofs.Cm
open Go.Proofs
structure PC (n:Nat) (H:List Nat→Prop) (tr:Tr) (k:Nat) (O:List (List Nat)) (R:List (List (List Nat))):Prop where
 iY:O.length=k
 il:R.length=k
 pQ:∀ i,i<k→(O.getD i []).Pairwise (· < ·)
 orb:∀ i p,i<k→(p∈O.getD i []↔∃ u,tr i p=some u)
 len:∀ i,i<k→(R.getD i []).length=(O.getD i []).length
 rep:∀ i j,i<k→j<(O.getD i []).length→lV n (fun z=>St H i z∧ap z i=(O.getD i []).getD j 0) ((R.getD i []).getD j [])
theorem PC.nil (n:Nat) (H:List Nat→Prop) (tr:Tr):PC n H tr 0 [] []:=⟨rfl,rfl,fun _ h=>absurd h (Nat.not_lt_zero _),fun _ _ h=>absurd h (Nat.not_lt_zero _),fun _ h=>absurd h (Nat.not_lt_zero _),fun _ _ h=>absurd h (Nat.not_lt_zero _)⟩
theorem PC.snoc {tr:Tr} (h:PC n H tr k O R) {o:List Nat} {r:List (List Nat)} (h1:o.Pairwise (· < ·)) (h2:∀ p,p∈o↔∃ u,tr k p=some u) (h3:r.length=o.length)
  (h4:∀ j,j<o.length→lV n (fun z=>St H k z∧ap z k=o.getD j 0) (r.getD j [])):PC n H tr (k+1) (O++[o]) (R++[r]):=by
 have eO:∀ i,i<k→(O++[o]).getD i []=O.getD i []:=fun i hi=>by
  rw [List.getD_eq_getElem?_getD,List.getD_eq_getElem?_getD,List.getElem?_append_left (by rw [h.iY]; exact hi)]
 have eR:∀ i,i<k→(R++[r]).getD i []=R.getD i []:=fun i hi=>by
  rw [List.getD_eq_getElem?_getD,List.getD_eq_getElem?_getD,List.getElem?_append_left (by rw [h.il]; exact hi)]
 have O1:(O++[o]).getD k []=o:=by
  rw [List.getD_eq_getElem?_getD,List.getElem?_append_right (by rw [h.iY]; exact Nat.le_refl _),h.iY]; simp
 have Vv:(R++[r]).getD k []=r:=by
  rw [List.getD_eq_getElem?_getD,List.getElem?_append_right (by rw [h.il]; exact Nat.le_refl _),h.il]; simp
 refine ⟨by simp [h.iY],by simp [h.il],fun i hi=>?_,fun i p hi=>?_,fun i hi=>?_,fun i j hi hj=>?_⟩
 ·by_cases e:i=k
  ·subst e; rw [O1]; exact h1
  ·rw [eO i (by omega)]; exact h.pQ i (by omega)
 ·by_cases e:i=k
  ·subst e; rw [O1]; exact h2 p
  ·rw [eO i (by omega)]; exact h.orb i p (by omega)
 ·by_cases e:i=k
  ·subst e; rw [O1,Vv]; exact h3
  ·rw [eO i (by omega),eR i (by omega)]; exact h.len i (by omega)
 ·by_cases e:i=k
  ·subst e; rw [O1] at hj ⊢; rw [Vv]; exact h4 j hj
  ·rw [eO i (by omega)] at hj ⊢; rw [eR i (by omega)]; exact h.rep i j (by omega) hj
theorem PC.Ct {tr:Tr} (h:PC n H tr n O R) (ht:kn n H tr):ar n H O R :=
 ⟨h.iY,h.il,h.pQ,fun i p hi=>by
  rw [h.orb i p hi]
  constructor
  ·rintro ⟨u,hu⟩
   exact ⟨u,⟨ht.mem i p u hi hu,ht.rp.fx i p u (Nat.zero_le _) hi hu⟩,ht.rp.at_ i p u (Nat.zero_le _) hi hu⟩
  ·rintro ⟨x,hx,rfl⟩
   exact ht.all i x hi hx,h.len,h.rep⟩
theorem Js (xs:List Nat) (nd:xs.Nodup):∃ l:List Nat,((xs.map (fun x:Nat=>(x:Int))).mergeSort (fun a b=>decide (a≤b)))=l.map (fun x:Nat=>(x:Int))∧l.Pairwise (· < ·)∧(∀ p,p∈l↔p∈xs)∧l.length=xs.length:=by
 have hp:=List.mergeSort_perm (xs.map (fun x:Nat=>(x:Int))) (fun a b=>decide (a≤b));have hs:=List.pairwise_mergeSort (le:=fun a b:Int=>decide (a≤b)) (fun a b c h1 h2=>by simp at *; omega) (fun a b=>by simp; omega) (xs.map (fun x:Nat=>(x:Int)));generalize (xs.map (fun x:Nat=>(x:Int))).mergeSort (fun a b=>decide (a≤b))=m at *
 have hm:∀ z∈m,0≤z:=fun z hz=>by
  have:=hp.mem_iff.1 hz;simp at this;obtain ⟨a,_,rfl⟩:=this;omega
 have e:(m.map Int.toNat).map (fun x:Nat=>(x:Int))=m:=by
  rw [List.map_map]
  conv=>rhs; rw [← List.map_id m]
  refine List.map_congr_left fun z hz=>?_;have:=hm z hz;simp; omega
 have pR:m.Nodup:=hp.nodup_iff.2 (List.pairwise_map.2 (nd.imp fun h e=>h (by omega)));refine ⟨m.map Int.toNat,e.symm,?_,fun p=>?_,?_⟩
 ·rw [List.pairwise_map]
  have h2:m.Pairwise (fun a b=>a≠b):=pR;refine (List.Pairwise.and hs h2).imp_of_mem fun {a b} ha hb gJ=>?_;have h3:=hm a ha;have h4:=hm b hb
  have h5:a≤b:=by simpa using gJ.1
  have h6:=gJ.2;omega
 ·constructor
  ·intro RK
   obtain ⟨z,hz,rfl⟩:=List.mem_map.1 RK;have:=hp.mem_iff.1 hz;simp at this;obtain ⟨a,ha,rfl⟩:=this
   simpa using ha
  ·intro Y4
   refine List.mem_map.2 ⟨(p:Int),hp.mem_iff.2 (List.mem_map.2 ⟨p,Y4,rfl⟩),by simp⟩
 ·rw [List.length_map,hp.length_eq,List.length_map]
end Go.Proofs.Cm

namespace Go.Proofs.YtbngdgfmlmkgiaaGreat
open Go.RowKit
open Go.Proofs
open Go.Proofs.Cm (Lv bf bX)
attribute [local irreducible] Go.Calls
theorem CF.below {w:World} {b o:Nat} {v:Value} (h:CF F w b o v) (hb:Below w.heap.size w w'):CF F w' b o v:=h.kf (KF.aK hb)
theorem FP.below {w:World} {v:Value} {p:List Nat} (h:FP F w v p) (hb:Below w.heap.size w w'):FP F w' v p:=h.kf (KF.aK hb)
theorem CL.below {w:World} {b o:Nat} {v:Value} (h:CL w b o v) (hb:Below w.heap.size w w'):CL w' b o v:=h.up hb
theorem aV.below {w:World} {T:bf} {V:Nat→LV} (h:aV F L n w T V) (hb:Below w.heap.size w w'):aV F L n w' T V:=by
 have hk:Rg.Kp (fun _=>False) w w':=Rg.Kp.aK hb;exact ⟨fun k hf=>Nat.lt_of_lt_of_le (h.gB k hf) hb.size,h.LF,eM h.row hk id,fun i hi=>(h.lv i hi).kp hk (fun _ _=>id) (fun _ _=>id),h.jY⟩
theorem jd.O3 {w:World} {e:TypeId} {v:Value} {xs:List Int} (h:w.ownsRow B e 1 v n (xs.map (Value.int .i64))) (hn:n=xs.length) (h0:0<n):jd w.heap.size w v xs:=by
 subst hn;have hh:=h;obtain ⟨h1,h2⟩:=h
 rcases h2 with ⟨_,O4⟩ | ⟨g,cap,cur,rfl,hg,hc,h3,h4,h5,h6⟩
 ·omega
 ·refine ⟨g,0,cap,rfl,(Array.getElem?_eq_some_iff.1 hc).1,fun j hj=>?_⟩
  obtain ⟨g',c',u,e1,e2,e3,e4⟩:=iE hh hj;simp at e1;obtain ⟨rfl,_⟩:=e1;rw [e2];simp [List.getElem?_eq_getElem hj] at e3 ⊢;exact e3.symm
theorem jd.up {w:World} {v:Value} {xs:List Int} (h:jd w.heap.size w v xs) (hb:Below w.heap.size w w'):jd w'.heap.size w' v xs:=by
 obtain ⟨b,o,c,e,h1,h2⟩:=h;exact ⟨b,o,c,e,Nat.lt_of_lt_of_le h1 hb.size,fun j hj=>(hb.cell (p:=⟨b,o+j,none⟩) h1).trans (h2 j hj)⟩
theorem Cu (a:Option Addr) (len cap:Nat) (w:World) :
  Calls Tryz.prog 86 #[.slice a len cap] w fun e w'=>∃ fb,e=.returned (.func (.func 109) #[] #[.pointer (some ⟨fb,0,none⟩)])∧CL w' fb 0 (.slice a len cap)∧Below w.heap.size w w':=by
 refine (callsIn_wide.1 (EV Fence.wide 3 trivial rfl a len cap w)).mono ?_;rintro e w' ⟨rfl,rfl⟩;exact ⟨_,rfl,⟨by rw [Rg.aM]; rfl,by simp⟩,(Below.refl _ _).alloc (Nat.le_refl _) _⟩
def PG (B:Nat) (W:World) (v:Value) (k:Nat):Prop:=B≤k∧k<W.heap.size∧v.ownBlock≠some k
structure fe (B:Nat) (W:World) (v:Value) (ll:List (List Int)):Prop where
 own:∃ us,W.ownsRow B 26 1 v ll.length us∧Rg.br (PG B W v) W us ll
theorem fe.nil (B:Nat) (W:World):fe B W (.slice none 0 0) []:=⟨[],World.ownsRow_nil _ _ _ _,Rg.br.nil _ _⟩
theorem fe.below {v:Value} (h:fe B W v ll) (hb:Below W.heap.size W W'):fe B W' v ll:=by
 obtain ⟨us,h1,h2⟩:=h.own;exact ⟨us,Rg.aQ h1 hb,(h2.kp (M:=fun _=>False) (Rg.Kp.aK hb) (fun _ _=>id)).mono fun k hk=>⟨hk.1,Nat.lt_of_lt_of_le hk.2.1 hb.size,hk.2.2⟩⟩
theorem fe.push {v:Value} (h:fe B W v ll) (hB:B≤W.heap.size) {u:Value} {B2:Nat} (hu:W.ownsRow B2 3 1 u l.length (l.map (Value.int .i64))) (hl:l.length≤1000000000) (Vw:∀ k,u.ownBlock=some k→B≤k∧v.ownBlock≠some k) (hn:ll.length<1000000) (ty:TypeId) :
  ∃ a c X,(Builtin.append_ #[22,22] ty #[v,.slice (some ⟨W.heap.size,0,none⟩) 1 1]).run Tryz.prog (W.alloc (.cells #[u] 26))=.ok (.slice a (ll.length+1) c) X∧fe B X (.slice a (ll.length+1) c) (ll++[l])∧(∀ {B':Nat} {W0:World},B'≤B→Below B' W0 W→Below B' W0 X):=by
 obtain ⟨us,h1,h2⟩:=h.own;have hb:Below W.heap.size W (W.alloc (.cells #[u] 26)):=(Below.refl _ _).alloc (Nat.le_refl _) _;obtain ⟨ua,uc,LW⟩:=Rg.bY hu;have hv:Rg.FI (PG B W v) W u l:=Rg.dK.of (Rg.cu.cm hu hl) (fun k e=>⟨(Vw k e).1,(hu.lt k e).2,(Vw k e).2⟩);have aJ:=fun k e=>(h1.lt k e).2;obtain ⟨v',X,r1,r2,r3,r4,a,c,rfl⟩:=cR (P:=Tryz.prog) aE ty (Rg.aQ h1 hb) (Nat.le_trans hB hb.size) W.heap.size 1 (u:=u) (by rw [Rg.aM]; rfl) (by rw [LW]; rfl) hn;have iG:Rg.Kp (fun _=>False) W (W.alloc (.cells #[u] 26)):=Rg.Kp.aK hb
 have dn:(W.alloc (.cells #[u] 26)).heap.size=W.heap.size+1:=by simp
 have hk:Rg.Kp (fun k=>v.ownBlock=some k) W X:=Rg.Kp.trans (M:=fun k=>v.ownBlock=some k) (iG.fN fun _=>False.elim) (Rg.Kp.cH r3 fun _ e=>e) (fun _ _ e=>e);have hg:∀ k,PG B W v k→¬ v.ownBlock=some k:=fun k g=>g.2.2
 have hm:∀ k,PG B W v k→PG B X (.slice a (ll.length+1) c) k:=fun k g=>by
  refine ⟨g.1,Nat.lt_of_lt_of_le g.2.1 hk.size,fun e=>?_⟩
  rcases r4 with r4 | r4
  ·rw [r4] at e; exact g.2.2 e
  ·rw [r4] at e; injection e with e; have:=g.2.1; omega
 refine ⟨a,c,X,r1,⟨us++[u],by rw [List.length_append]; exact r2,(br.snoc (h2.kp hk hg) (hv.kp hk hg)).mono hm⟩,fun {B' W0} qs dG=>?_⟩;refine (dG.trans ⟨hk.os,hk.tape,hk.output,hk.size,fun k K8=>hk.block k ?_ fun e=>?_⟩)
 ·have:=dG.size; omega
 ·have:=(h1.lt k e).1; omega
end Go.Proofs.YtbngdgfmlmkgiaaGreat

namespace Go.Proofs.Rg
open Go Go.RowKit
variable {P:Program} {md:Region.Mode} {ops:Array Oper} {Q:Exit→Act→World→Prop} {S:Array Bool→World→Prop}
theorem Any.LX {i q di dk dj dq:Nat} {vq:Value} {I R0:World→Prop} {Ri Rk Rj:Value→World→Prop} {l:Array Bool} {a:Act} {w:World} (hS:∀ l W,I W→S l W)
  (ij:i≠j) (kj:k≠j) (qj:q≠j) (RL:di≠dj) (O5:dk≠dj) (Y5:dq≠dj)
  (r0:Region.ready md ops l=[i,j]) (ri:Region.ready md ops (l.setIfInBounds i true)=[k,j]) (rj:Region.ready md ops (l.setIfInBounds j true)=[i])
  (Vx:Region.ready md ops (((l.setIfInBounds i true).setIfInBounds k true).setIfInBounds q true)=[j]) (LY:Region.ready md ops ((l.setIfInBounds i true).setIfInBounds j true)=[k])
  (Vy:∀ u x W m,S ((l.setIfInBounds i true).setIfInBounds k true) W→Any P md ops Q S m (((l.setIfInBounds i true).setIfInBounds k true).setIfInBounds q true) (((a.put (some di) u).put (some dk) x).put (some dq) vq) W→Any P md ops Q S (m+1) ((l.setIfInBounds i true).setIfInBounds k true) ((a.put (some di) u).put (some dk) x) W)
  (gV:∀ u v x W m,S (((l.setIfInBounds i true).setIfInBounds j true).setIfInBounds k true) W→Any P md ops Q S m ((((l.setIfInBounds i true).setIfInBounds j true).setIfInBounds k true).setIfInBounds q true) ((((a.put (some di) u).put (some dj) v).put (some dk) x).put (some dq) vq) W→Any P md ops Q S (m+1) (((l.setIfInBounds i true).setIfInBounds j true).setIfInBounds k true) (((a.put (some di) u).put (some dj) v).put (some dk) x) W)
  (s0:∀ W W',Below W.heap.size W W'→R0 W→R0 W') (si:∀ u W W',Below W.heap.size W W'→Ri u W→Ri u W') (sk:∀ u W W',Below W.heap.size W W'→Rk u W→Rk u W') (sj:∀ u W W',Below W.heap.size W W'→Rj u W→Rj u W')
  (hi:∀ b,(b=a∨∃ u,b=a.put (some dj) u)→∀ W,I W→Does P ops Q i di I Ri (fun W W'=>Below W.heap.size W W') b W)
  (hj:∀ b,(b=a∨(∃ u,b=a.put (some di) u)∨∃ u v,b=((a.put (some di) u).put (some dk) v).put (some dq) vq)→∀ W,I W→Does P ops Q j dj I Rj (fun W W'=>Below W.heap.size W W') b W)
  (hk:∀ u b,(b=a.put (some di) u∨∃ v,b=(a.put (some di) u).put (some dj) v)→∀ W,I W→R0 W→Ri u W→Does P ops Q k dk I Rk (fun W W'=>∀ v,Rj v W→Rj v W') b W)
  (hI:I w) (h0:R0 w) (h:∀ W u x v,I W→Rk x W→Rj v W→Any P md ops Q S n ((((l.setIfInBounds i true).setIfInBounds k true).setIfInBounds q true).setIfInBounds j true) ((((a.put (some di) u).put (some dk) x).put (some dq) vq).put (some dj) v) W) :
  Any P md ops Q S (n+4) l a w:=by
 have ha:∀ u x v:Value,(((a.put (some di) u).put (some dj) v).put (some dk) x).put (some dq) vq=((((a.put (some di) u).put (some dk) x).put (some dq) vq).put (some dj) v):=fun u x v=>by
  rw [put_comm (a.put (some di) u) v x (Ne.symm O5),put_comm ((a.put (some di) u).put (some dk) x) v vq (Ne.symm Y5)]
 have hl:(((l.setIfInBounds i true).setIfInBounds j true).setIfInBounds k true).setIfInBounds q true=(((l.setIfInBounds i true).setIfInBounds k true).setIfInBounds q true).setIfInBounds j true:=by
  rw [Array.setIfInBounds_comm true true (xs:=l.setIfInBounds i true) (Ne.symm kj),Array.setIfInBounds_comm true true (xs:=(l.setIfInBounds i true).setIfInBounds k true) (Ne.symm qj)]
 refine Any.two r0 ?_ ?_
 ·refine wpOp_mono ?_ (hi a (.inl rfl) w hI)
  rintro c W ⟨u,rfl,h1,h2,h3⟩;refine ⟨hS _ _ h1,Any.two ri ?_ ?_⟩
  ·refine wpOp_mono ?_ (hk u _ (.inl rfl) W h1 (s0 _ _ h3 h0) h2)
   rintro c W' ⟨x,rfl,g1,g2,g3⟩;refine ⟨hS _ _ g1,Vy u x W' (n+1) (hS _ _ g1) (Any.one Vx ?_)⟩;refine wpOp_mono ?_ (hj _ (.inr (.inr ⟨u,x,rfl⟩)) W' g1);rintro c mO ⟨v,rfl,e1,e2,e3⟩;exact ⟨hS _ _ e1,h _ _ _ _ e1 (sk _ _ _ e3 g2) e2⟩
  ·refine wpOp_mono ?_ (hj _ (.inr (.inl ⟨u,rfl⟩)) W h1)
   rintro c W' ⟨v,rfl,g1,g2,g3⟩;refine ⟨hS _ _ g1,Any.one LY ?_⟩;refine wpOp_mono ?_ (hk u _ (.inr ⟨v,rfl⟩) W' g1 (s0 _ _ g3 (s0 _ _ h3 h0)) (si _ _ _ g3 h2));rintro c mO ⟨x,rfl,e1,e2,e3⟩;refine ⟨hS _ _ e1,gV u v x mO n (hS _ _ e1) ?_⟩;rw [ha,hl];exact h mO u x v e1 e2 (e3 _ g2)
 ·refine wpOp_mono ?_ (hj a (.inl rfl) w hI)
  rintro c W ⟨v,rfl,h1,h2,h3⟩;refine ⟨hS _ _ h1,Any.one rj ?_⟩;refine wpOp_mono ?_ (hi _ (.inr ⟨v,rfl⟩) W h1);rintro c W' ⟨u,rfl,g1,g2,g3⟩;refine ⟨hS _ _ g1,Any.one (by rw [Array.setIfInBounds_comm _ _ (Ne.symm ij)]; exact LY) ?_⟩;rw [put_comm a v u (Ne.symm RL),Array.setIfInBounds_comm _ _ (Ne.symm ij)];refine wpOp_mono ?_ (hk u _ (.inr ⟨v,rfl⟩) W' g1 (s0 _ _ g3 (s0 _ _ h3 h0)) g2);rintro c mO ⟨x,rfl,e1,e2,e3⟩;refine ⟨hS _ _ e1,gV u v x mO n (hS _ _ e1) ?_⟩;rw [ha,hl];exact h mO u x v e1 e2 (e3 _ (sj _ _ _ g3 h2))
end Go.Proofs.Rg

namespace Go.Proofs.YtbngdgfmlmkgiaaGreat
open Go.RowKit
open Go.Proofs
open Go.Proofs.Cm (Lv bf bX)
attribute [local irreducible] Go.Calls
theorem RM (args:Array Value) (w:World):(callFunc 86 args).run Tryz.prog w=.ok (.enter 86 args) w:=by kernel_rfl
theorem RN (args:Array Value) (w:World):(callFunc 85 args).run Tryz.prog w=.ok (.enter 85 args) w:=by kernel_rfl
theorem RQ (args:Array Value) (w:World):(callFunc 88 args).run Tryz.prog w=.ok (.enter 88 args) w:=by kernel_rfl
theorem RS (args:Array Value) (w:World):(callFunc 87 args).run Tryz.prog w=.ok (.enter 87 args) w:=by kernel_rfl
structure iK (B:Nat) (W:World) (v:Value) (l:List Int):Prop where
 own:W.ownsRow B 3 1 v l.length (l.map (Value.int .i64))
theorem iK.below {v:Value} (h:iK B W v l) (hb:Below W.heap.size W W'):iK B W' v l:=⟨Rg.aQ h.own hb⟩
structure SZ (m:Nat) (W:World):Prop where
 le:m≤W.heap.size
theorem SZ.below (h:SZ m W) (hb:Below W.heap.size W W'):SZ m W':=⟨Nat.le_trans h.le hb.size⟩
theorem fe.lt {B:Nat} {W:World} {v:Value} {ll:List (List Int)} (h:fe B W v ll):∀ k,v.ownBlock=some k→B≤k∧k<W.heap.size:=fun k e=>by
 obtain ⟨us,h1,_⟩:=h.own;exact h1.lt k e
theorem fe.shape {v:Value} (h:fe B W v ll):∃ a c,v=.slice a ll.length c:=by
 obtain ⟨us,h1,_⟩:=h.own;exact Rg.bY h1
theorem fe.E0 {v:Value} (h:fe B W v ll) (hl:ll.length≤1000000000) {G:Nat→Prop} (hG:∀ k,B≤k→k<W.heap.size→G k):Rg.bs G W v ll:=by
 obtain ⟨us,h1,h2⟩:=h.own;exact ⟨us,Rg.dK.of (Rg.cu.cm h1 hl) (fun k e=>hG k (h1.lt k e).1 (h1.lt k e).2),h2.mono fun k g=>hG k g.1 g.2.1⟩
theorem iK.fi {v:Value} (h:iK B W v l) (hl:l.length≤1000000000) {G:Nat→Prop} (hG:∀ k,B≤k→k<W.heap.size→G k):Rg.FI G W v l :=
 Rg.dK.of (Rg.cu.cm h.own hl) (fun k e=>hG k (h.own.lt k e).1 (h.own.lt k e).2)
theorem dh.Ig {w:World} {b:Nat} (h:dh w b u1 u2 u3) (y:Value):dh (w.setCell ⟨b,1,none⟩ y) b u1 y u3:=by
 refine ⟨?_,World.cell?_setCell_same (h:=h.c1) ..,?_,?_,?_,?_,by simpa using h.lt⟩
 ·rw [World.cell?_setCell_other (h:=by intro e; injection e with e1 e2; omega) ..]; exact h.c0
 ·rw [World.cell?_setCell_other (h:=by intro e; injection e with e1 e2; omega) ..]; exact h.c2
 ·rw [World.frozen?_setCell]; exact h.f0
 ·rw [World.frozen?_setCell]; exact h.f1
 ·rw [World.frozen?_setCell]; exact h.f2
theorem fE.Ih {c0 c1 c2:Value} {O:List (List Int)} {R:List (List (List Int))} (h:fE B W tc c0 c1 c2 ov rv O R):∃ a c,ov=.slice a O.length c:=by
 obtain ⟨us,vs,h1,_⟩:=h.own;exact Rg.bY h1
theorem fE.Ii {c0 c1 c2:Value} {O:List (List Int)} {R:List (List (List Int))} (h:fE B W tc c0 c1 c2 ov rv O R):∃ a c,rv=.slice a R.length c:=by
 obtain ⟨us,vs,_,h1,_⟩:=h.own;exact Rg.bY h1
theorem fE.kp {M:Nat→Prop} {B:Nat} {W W':World} {tc:Nat} {c0 c1 c2 ov rv:Value} {O:List (List Int)} {R:List (List (List Int))} (h:fE B W tc c0 c1 c2 ov rv O R) (hk:Rg.Kp M W W') (hM:∀ z,M z→z<B):fE B W' tc c0 c1 c2 ov rv O R:=by
 obtain ⟨us,vs,h1,h2,h3,h4⟩:=h.own
 have hg:∀ z,iJ B W tc ov rv z→¬ M z:=fun z g e=>by have:=hM z e; have:=g.1; omega
 have hm:∀ z,iJ B W tc ov rv z→iJ B W' tc ov rv z:=fun z g=>g.up hk.size;exact ⟨h.j0.kp hk (fun e=>by have:=hM _ e; have:=h.low; omega),h.low,⟨us,vs,gM h1 hk (fun z e e2=>by have:=hM z e; have:=(h1.lt z e2).1; omega),gM h2 hk (fun z e e2=>by have:=hM z e; have:=(h2.lt z e2).1; omega),(h3.kp hk hg).mono hm,bN.mono (bN.kp h4 hk hg) hm⟩,h.apart,h.ot,h.rt⟩
def fj (F:Nat→Prop) (w:World) (v:Value) (l7:List (List (List Int))):Prop:=∃ us,Rg.dK F w v us∧Rg.bN F w us l7
theorem fj.rows {F:Nat→Prop} {w:World} {v:Value} {l7:List (List (List Int))} (h:fj F w v l7):fL w v l7:=by
 obtain ⟨us,h1,h2⟩:=h;exact ⟨us,h1.zd,h2.1,fun i a b=>bs.rows (h2.2 i a b)⟩
theorem fj.kp {F M:Nat→Prop} {w w':World} {v:Value} {ll:List (List (List Int))} (h:fj F w v ll) (hk:Rg.Kp M w w') (hF:∀ k,F k→¬ M k):fj F w' v ll:=by
 obtain ⟨us,h1,h2⟩:=h;exact ⟨us,h1.kp hk hF,bN.kp h2 hk hF⟩
theorem fE.Vz {c0 c1 c2:Value} {O:List (List Int)} {R:List (List (List Int))} (h:fE B W tc c0 c1 c2 ov rv O R) (hl:O.length≤1000000000):Rg.bs (fun z=>B≤z) W ov O:=by
 obtain ⟨us,vs,h1,h2,h3,h4⟩:=h.own;exact ⟨us,Rg.dK.of (Rg.cu.cm h1 hl) (fun k e=>(h1.lt k e).1),h3.mono fun _ g=>g.1⟩
theorem fE.VA {c0 c1 c2:Value} {O:List (List Int)} {R:List (List (List Int))} (h:fE B W tc c0 c1 c2 ov rv O R) (hl:R.length≤1000000000):fj (fun z=>B≤z) W rv R:=by
 obtain ⟨us,vs,h1,h2,h3,h4⟩:=h.own;exact ⟨vs,Rg.dK.of (Rg.cu.cm h2 hl) (fun k e=>(h2.lt k e).1),bN.mono h4 fun _ g=>g.1⟩
structure wF (B:Nat) (W:World) (tc:Nat) (c0 c1 c2 ov rv:Value) (O:List (List Int)) (R:List (List (List Int))) (x5:Value) (l5:List Int) (x6:Value) (l6:List (List Int)):Prop where
 ch:fE B W tc c0 c1 c2 ov rv O R
 f5:Rg.FI (iJ B W tc ov rv) W x5 l5
 f6:Rg.bs (iJ B W tc ov rv) W x6 l6
theorem ny {x6:Value} {l6:List (List Int)} (h:Rg.bs (iJ B W tc ov rv) W x6 l6) (hb:Below W.heap.size W W'):Rg.bs (iJ B W' tc ov rv) W' x6 l6 :=
 bs.mono (bs.kp (M:=fun _=>False) h (Rg.Kp.aK hb) (fun _ _=>id)) (fun _ g=>g.up hb.size)
theorem wF.below {B:Nat} {W W':World} {tc:Nat} {c0 c1 c2 ov rv:Value} {O:List (List Int)} {R:List (List (List Int))} {x5:Value} {l5:List Int} {x6:Value} {l6:List (List Int)} (h:wF B W tc c0 c1 c2 ov rv O R x5 l5 x6 l6) (hb:Below W.heap.size W W'):wF B W' tc c0 c1 c2 ov rv O R x5 l5 x6 l6 :=
 ⟨h.ch.below hb,Rg.FI.mono (Rg.FI.kp (M:=fun _=>False) h.f5 (Rg.Kp.aK hb) (fun _ _=>id)) (fun _ g=>g.up hb.size),ny h.f6 hb⟩
theorem CL.c {w:World} {b o:Nat} {v:Value} (h:CL w b o v):w.cell? ⟨b,o,none⟩=some v:=h.cell
theorem wG (aZ:1≤n) (bn:n≤64) {w:World} {T:bf} {V:Nat→LV} (hT:aV F L n w T V) (cr:CF F w tb 0 (.int .i64 ((n:Nat):Int))) (eJ:CF F w tb 1 (.slice (some ⟨L,0,none⟩) n n)) (hH:Cm.eI n H) (dx:Cm.kn n H (bX T)) (hl:∀ j,j<n→Cm.fC n T j) :
  Calls Tryz.prog 63 #[.pointer (some ⟨tb,0,none⟩)] w fun e w'=>∃ ov rv O R,e=.returned (.agg #[.int .i64 ((n:Nat):Int),ov,rv])∧Rg.bs (fun z=>w.heap.size≤z) w' ov (O.map Ma.ah)∧fj (fun z=>w.heap.size≤z) w' rv (R.map (List.map Ma.ah))∧Cm.ar n H O R∧Below w.heap.size w w':=by
 have K:=ι (Below.refl w.heap.size w);have HT:=ι hT;have C0:=ι cr;have C1:=ι eJ;have HH:=ι hH;have n5:=ι dx;have HL:=ι hl;clear hT cr eJ hH dx hl
 go_enter Tryz.func63,Tryz.ntmps63
 go_upto_region 0 with fail;refine b6 ?_;have bA:=dh.new w (.int .i64 0) (.slice none 0 0) (.slice none 0 0);refine i8 (cz rfl) ?_;go_frame;have hb:=(Below.refl w.heap.size w).alloc (Nat.le_refl _) (.cells #[.int .i64 0,.slice none 0 0,.slice none 0 0] 54);generalize w.alloc (.cells #[.int .i64 0,.slice none 0 0,.slice none 0 0] 54)=w1 at *;replace HT:=ι (HT.out.below hb);replace C0:=ι (C0.out.below hb);replace C1:=ι (C1.out.below hb);replace K:=ι (Rg.acc K.out hb);clear hb;have FT:=ι bA;have K1:=ι (Below.refl w1.heap.size w1);have LZ:=(FT.out.lt);clear bA;go_upto_region 1 with fail
 refine b6<|i6 rfl<|i8 (aY _ rfl rfl)<|i8 (g8 (wj _ _))<|i8 (d8 (.int .i64 ((n:Nat):Int)) ⟨tb,0,none⟩ (af ((Below.cell (p:=⟨tb,0,none⟩) K1.out C0.out.lt).trans C0.out.cell))) ?_;go_frame
 refine i8 (p5 (d:=((n:Nat):Int)) _ rfl rfl) ?_;go_frame;have bA:=dh.new w1 (.int .i64 0) (.slice none 0 0) (.slice none 0 0);refine i8 (cz rfl) ?_;go_frame;have hb:=(Below.refl w1.heap.size w1).alloc (Nat.le_refl _) (.cells #[.int .i64 0,.slice none 0 0,.slice none 0 0] 54);generalize w1.alloc (.cells #[.int .i64 0,.slice none 0 0,.slice none 0 0] 54)=w2 at *;replace K1:=ι (Rg.acc K1.out hb);clear hb;have FC:=ι bA;refine Rg.aF none rfl rfl (Rg.az _ _ _ rfl _ rfl _ rfl (bC _ _ _ _ _ _ _ FC.out)) ?_;go_frame;clear bA;replace FC:=ι (FC.out.set (.int .i64 ((n:Nat):Int)) (.slice none 0 0) (.slice none 0 0));replace K1:=ι (((K1.out.setCell (p:=⟨w1.heap.size,0,none⟩) (Nat.le_refl _) (.int .i64 ((n:Nat):Int))).setCell (p:=⟨w1.heap.size,1,none⟩) (Nat.le_refl _) (.slice none 0 0)).setCell (p:=⟨w1.heap.size,2,none⟩) (Nat.le_refl _) (.slice none 0 0))
 generalize (((w2).setCell ⟨w1.heap.size,0,none⟩ (.int .i64 ((n:Nat):Int))).setCell ⟨w1.heap.size,1,none⟩ (.slice none 0 0)).setCell ⟨w1.heap.size,2,none⟩ (.slice none 0 0)=w5 at *;have CH:=ι (fE.start FC.out (Nat.le_refl _));clear FC;go_upto_region 2 with fail
 refine b6<|i6 rfl<|i8 (aY _ rfl rfl)<|i8 (g8 (jI _ _))<|i8 (d8 (.slice (some ⟨L,0,none⟩) n n) ⟨tb,1,none⟩ (Rg.ae _ _ Tryz.underlying120 ((Below.cell (p:=⟨tb,1,none⟩) K1.out C1.out.lt).trans C1.out.cell))) ?_;go_frame
 refine i8 (e8 Tryz.underlying120)<|i4 rfl ?_;go_frame
 have nz:=ι (Cm.PC.nil n H (bX T));go_wp2
 go_loopw [19] (fun iv wr=>∃ (k:Nat) (ov rv:Value) (O:List (List Nat)) (R:List (List (List Nat))),iv=.int .i64 k∧k≤n∧Hid (fE w1.heap.size wr w1.heap.size (.int .i64 ((n:Nat):Int)) ov rv ov rv (O.map Ma.ah) (R.map (List.map Ma.ah)))∧Hid (Below w1.heap.size w1 wr)∧Hid (Cm.PC n H (bX T) k O R)) (fun iv _=>n - (intOf iv).toNat)
 case atStart=>exact ⟨0,_,_,[],[],rfl,Nat.zero_le _,CH,K1,nz⟩
 case round =>
  clear CH K1 nz;obtain ⟨k,ov,rv,O,R,rfl,hk,CH,K1,nz⟩:=hrel;have L0:=CH.out.Ih;have L1:=CH.out.Ii;rw [List.length_map] at L0 L1;obtain ⟨gP,gQ,rfl⟩:=L0;obtain ⟨fZ,f_,rfl⟩:=L1
  by_cases bP:k<n
  ·have iH:(k:Int)<(n:Int):=by omega
   have eA:=HL.out k bP;have oM:=Cm.mF eA;have EA:1≤(T k).orb.length:=List.length_pos_of_mem ((eA.orb k).2 ⟨_,eA.self⟩);obtain ⟨l,nX,rY,VB,O6⟩:=Cm.Js (T k).orb eA.nd;have Y6:=ι (show Ob.pQ (Ma.ah (T k).orb)=Ma.ah l by rw [Ob.tu]; exact nX);have tH:=ι rY;have E1:=ι VB;have Y7:=ι O6;obtain ⟨oa,oc,lW⟩:=HT.out.nU bP;have CO:=ι (CL.mk (show w1.cell? ⟨L,k*194+1,none⟩=some (.slice oa (T k).orb.length oc) by rw [ur HT.out bP rfl,lW]) HT.out.lt);have SI:=ι (show jd w1.heap.size w1 (.slice oa (T k).orb.length oc) (Ma.ah (T k).orb) by have:=jd.O3 (HT.out.lv k bP).pZ (by rw [Ma.aG]) EA; rwa [lW] at this);have bd:=ι bP;have je:=ι (show (∀ z,(Value.slice gP O.length gQ).ownBlock=some z→z<wr.heap.size)∧(∀ z,(Value.slice fZ R.length f_).ownBlock=some z→z<wr.heap.size)∧w1.heap.size<wr.heap.size from ⟨fun z e=>(CH.out.yB.1 z e).2,fun z e=>(CH.out.yB.2 z e).2,CH.out.j0.lt⟩)
   have jn:=ι (SZ.mk (Nat.le_refl wr.heap.size))
   have VC:1≤(Ma.ah (T k).orb).length:=by rw [Ma.aG]; exact EA
   have jx:(Ma.ah (T k).orb).length≤1000000:=by rw [Ma.aG]; omega
   have wH:=ι (show l.length≤64 by rw [O6]; omega);have E3:=ι (show 1≤l.length by rw [O6]; exact EA);clear eA nX rY VB O6 lW;go_upto_region 5 with fail
   refine b6<|i6 rfl<|i8 (aY _ rfl rfl)<|i8 (g8 (jI _ _))<|i8 (d8 (.slice (some ⟨L,0,none⟩) n n) ⟨tb,1,none⟩ (Rg.ae _ _ Tryz.underlying120 ((Below.cell (p:=⟨tb,1,none⟩) K1.out C1.out.lt).trans C1.out.cell))) ?_;go_frame
   refine i4 rfl<|i8 (cT _ _ rfl Tryz.underlying120 gN L (n) (n) (k) rfl rfl bd.out)<|i8 (g8 (zm _ _ _))<|i8 (d8 (.slice oa (T k).orb.length oc) ⟨L,k*194+1,none⟩ (Rg.ae _ _ Tryz.underlying25 ((Below.cell (p:=⟨L,k*194+1,none⟩) K1.out CO.out.lt).trans CO.out.cell))) ?_;go_frame
   refine d4 30 (aq 86 _ _ rfl rfl (RM _ _)) ?_;refine (Cu _ _ _ wr).mono ?_;rintro e1 gC ⟨fb,rfl,yw,hb⟩;refine ⟨_,rfl,?_⟩;go_frame;replace CH:=ι (CH.out.below hb);replace jn:=ι (jn.out.below hb);replace K1:=ι (Rg.acc K1.out hb);clear hb;have FB:=ι yw;have L2:=jn.out.le;refine d4 31 (aq 85 _ _ rfl rfl (RN _ _)) ?_;refine (Cs fb _ _ VC jx gC FB.out.lt FB.out.cell (SI.out.up K1.out)).mono ?_;rintro e1 l8 ⟨v,rfl,bD,hb⟩;rw [Y6.out,Ma.aG] at bD;have bD:=iK.mk (l:=Ma.ah l) (by rw [Ma.aG,Y7.out]; exact bD);have hq:=iE bD.own (k:=0) (by rw [Ma.aG]; exact E3.out);rw [Ma.aG] at hq;obtain ⟨sb,sc,u0,rfl,_,_,_⟩:=hq;have wI:=ι L2;refine ⟨_,rfl,?_⟩;go_frame;replace CH:=ι (CH.out.below hb);replace jn:=ι (jn.out.below hb);replace FB:=ι (FB.out.below hb);replace K1:=ι (Rg.acc K1.out hb)
   clear hb;have R5:=ι bD;refine i5 rfl ?_;go_frame;clear yw bD FB CO SI;replace HT:=ι (HT.out.below K1.out);replace C0:=ι (C0.out.below K1.out);replace C1:=ι (C1.out.below K1.out);replace FT:=ι (FT.out.below K1.out);have K5:=ι (Below.refl l8.heap.size l8);have RP:=ι (fe.nil l8.heap.size l8);have rZ:=ι (show ∀ j,j<0→Cm.lV n (fun z=>Cm.St H k z∧Cm.ap z k=l.getD j 0) (([]:List (List Nat)).getD j []) from fun j h=>absurd h (Nat.not_lt_zero _));go_wp2
   go_loopw [34,6] (fun iv tv wq=>∃ (m:Nat) (rs:List (List Nat)),iv=.int .i64 m∧m≤l.length∧rs.length=m∧Hid (fe l8.heap.size wq tv (rs.map Ma.ah))∧Hid (Below l8.heap.size l8 wq)∧Hid (∀ j,j<m→Cm.lV n (fun z=>Cm.St H k z∧Cm.ap z k=l.getD j 0) (rs.getD j []))) (fun iv _ _=>l.length - (intOf iv).toNat)
   case atStart=>exact ⟨0,[],rfl,Nat.zero_le _,rfl,RP,K5,rZ⟩
   case round =>
    clear K5 RP rZ;obtain ⟨m,rs,rfl,hm,wJ,RP,K5,rZ⟩:=hrel
    have RT:(l.length:Int)≤64:=by have:=wH.out; omega
    obtain ⟨ta,tc,rfl⟩:=RP.out.shape
    by_cases kX:m<l.length
    ·have wm:(m:Int)<(l.length:Int):=by omega
     obtain ⟨p,hp⟩:∃ p:Nat,Hid (p=l[m]):=⟨_,ι rfl⟩
     have aN:l8.cell? ⟨sb,0+m,none⟩=some (.int .i64 ((p:Nat):Int)):=by
      obtain ⟨g,c,u,e1,e2,e3,_⟩:=iE R5.out.own (k:=m) (by rw [Ma.aG]; exact kX);simp only [Value.slice.injEq,Option.some.injEq,Addr.mk.injEq] at e1;obtain ⟨⟨rfl,_,_⟩,_,_⟩:=e1;rw [e2,← e3,hp.out];simp [Ma.ah,List.getElem?_eq_getElem kX]
     have CS:=ι (CL.mk aN (gK aN));obtain ⟨u,hu⟩:=((HL.out k bd.out).orb p).1 ((E1.out p).1 (by rw [hp.out]; exact List.getElem_mem kX));have eA:=HL.out k bd.out;have OU:=eA.Ae p u hu
     have jw:p<64:=by omega
     have GU:=ι (eA.vY p u hu);have HU:=ι hu;obtain ⟨ub,uo,uc,Cb,Cc⟩:=HT.out.OP bd.out jw hu GU.out aZ;have UP:=ι Cc;have CU:=ι (CL.mk (show l8.cell? ⟨L,k*194+2+p,none⟩=some (.slice (some ⟨ub,uo,none⟩) n uc) by rw [ql HT.out bd.out jw (by omega),Cb]) HT.out.lt);have fY:=ι kX;have nA:=ι wJ;clear aN hu eA Cb Cc wJ;go_upto_region 9 with fail
     refine b6<|i8 (ag aX _ _ rfl sb (0) (l.length) sc (m) rfl rfl fY.out)<|i8 (d8 (.int .i64 ((p:Nat):Int)) ⟨sb,0+m,none⟩ (af ((Below.cell (p:=⟨sb,0+m,none⟩) K5.out CS.out.lt).trans CS.out.cell)))<|i4 rfl ?_;go_frame
     go_upto_region 10 with fail
     refine b6<|i5 rfl<|i6 rfl<|i6 rfl<|i8 (aY _ rfl rfl) ?_;go_frame
     refine i8 (g8 (jI _ _))<|i8 (d8 (.slice (some ⟨L,0,none⟩) n n) ⟨tb,1,none⟩ (Rg.ae _ _ Tryz.underlying120 ((Below.cell (p:=⟨tb,1,none⟩) K5.out C1.out.lt).trans C1.out.cell)))<|i4 rfl<|i4 rfl<|i8 (cT _ _ rfl Tryz.underlying120 gN L (n) (n) (k) rfl rfl bd.out) ?_;go_frame
     refine i8 (g8 (uw _ _ _))<|i8 (bp _ _ rfl Tryz.underlying127 rM L (k*194+2) (p) rfl rfl jw)<|i8 (d8 (.slice (some ⟨ub,uo,none⟩) n uc) ⟨L,k*194+2+p,none⟩ (Rg.ae _ _ Tryz.underlying26 ((Below.cell (p:=⟨L,k*194+2+p,none⟩) K5.out CU.out.lt).trans CU.out.cell)))<|i4 rfl ?_;go_frame
     refine d4 51 (dN 88 _ _ _ _ rfl rfl rfl rfl (RQ _ _)) ?_;refine (ER aZ bn (HT.out.below K5.out) (C0.out.below K5.out) (C1.out.below K5.out) HH.out n5.out HL.out (UP.out.below K5.out) GU.out bd.out).mono ?_;rintro e1 lX ⟨F2,yv,y,rfl,_,_,hy,O7,O8,hb⟩;have mM:=ι O7;have GY:=ι O8;refine ⟨_,rfl,?_⟩;go_frame;replace RP:=ι (RP.out.below hb);replace K5:=ι (Rg.acc K5.out hb);clear hb;have YN:=ι hy;have L3:=ι (fun z e=>(RP.out.lt z e).2);have L4:=ι K5.out.size;refine d4 52 (aq 87 _ _ rfl rfl (RS _ _)) ?_;refine (EZ _ (Ma.ah y) lX YN.out.np (by rw [Ma.aG,GY.out.2]; exact aZ) (by rw [Ma.aG,GY.out.2]; omega)).mono ?_;rintro e1 rT ⟨cv,rfl,bD,hb⟩;obtain ⟨ca,cc,rfl⟩:=Rg.bY bD;have lO:=ι bD;refine ⟨_,rfl,?_⟩;go_frame;replace RP:=ι (RP.out.below hb);replace YN:=ι (YN.out.below hb)
     replace K5:=ι (Rg.acc K5.out hb);clear hb;refine i8 (Rg.aC _ _ _ rfl (.slice ca (Ma.ah y).length cc) rfl (dI rT _ ⟨_,_,_,rfl⟩)) ?_;go_frame;obtain ⟨a9,c9,X9,r1,r2,r3⟩:=RP.out.push K5.out.size lO.out (by rw [Ma.aG,GY.out.2]; omega) (fun z e=>⟨by have:=(lO.out.lt z e).1; have:=L4.out; omega,fun e2=>by have:=(lO.out.lt z e).1; have:=L3.out z e2; omega⟩) (by rw [List.length_map,nA.out]; have:=wH.out; have:=fY.out; omega) 22
     refine i8 (Rg.aP _ _ _ rfl rfl rfl r1)<|i5 rfl ?_;go_frame
     have K6:=ι (r3 (Nat.le_refl _) K5.out);have RU:=ι (show fe l8.heap.size X9 (.slice a9 ((rs.map Ma.ah).length+1) c9) ((rs++[y]).map Ma.ah) by rw [List.map_append]; exact r2);have RZ:=ι (Cm.LI.done HH.out bd.out ⟨n5.out.mem k p u bd.out HU.out,n5.out.rp.fx k p u (Nat.zero_le _) bd.out HU.out⟩ mM.out)
     have L5:=ι (show ∀ j,j<m+1→Cm.lV n (fun z=>Cm.St H k z∧Cm.ap z k=l.getD j 0) ((rs++[y]).getD j []) from fun j hj=>by
      have hl:=nA.out
      by_cases e:j=m
      ·subst e
       have e1:(rs++[y]).getD j []=y:=by
        rw [List.getD_eq_getElem?_getD,List.getElem?_append_right (by omega),hl]; simp
       have e2:l.getD j 0=p:=by
        rw [hp.out,List.getD_eq_getElem?_getD,List.getElem?_eq_getElem fY.out]; rfl
       have e3:Cm.ap u k=p:=n5.out.rp.at_ k p u (Nat.zero_le _) bd.out HU.out;rw [e1,e2];have:=RZ.out
       rwa [e3] at this
      ·have e1:(rs++[y]).getD j []=rs.getD j []:=by
        rw [List.getD_eq_getElem?_getD,List.getD_eq_getElem?_getD,List.getElem?_append_left (by omega)]
       rw [e1]
       exact rZ.out j (by omega))
     have L6:=ι (show (rs++[y]).length=m+1 by rw [List.length_append,nA.out]; rfl);clear r1 r2 r3;go_wp2
     go_roundw
     case rel=>exact ⟨m+1,rs++[y],by go_num,fY.out,L6.out,RU,K6,L5⟩
     case measure=>simp [intOf]; have:=fY.out; omega
    ·obtain rfl:m=l.length:=by omega
     have wm:¬ (l.length:Int)<(l.length:Int):=by omega
     replace CH:=ι (CH.out.below K5.out);replace K1:=ι (Rg.acc K1.out K5.out);have R1:=jn.out.le;replace jn:=ι (jn.out.below K5.out);have L7:=R5.out.below K5.out
     have PD:=ι (wF.mk CH.out (L7.fi (by rw [Ma.aG]; omega) (G:=iJ w1.heap.size wr w1.heap.size (Value.slice gP O.length gQ) (Value.slice fZ R.length f_)) (fun z g1 g2=>⟨by have:=wI.out; have:=je.out.2.2; omega,g2,fun e=>by have:=wI.out; have:=je.out.1 z e; omega,fun e=>by have:=wI.out; have:=je.out.2.1 z e; omega,by have:=wI.out; have:=je.out.2.2; omega⟩))
      (RP.out.E0 (by rw [List.length_map,wJ]; omega) (G:=iJ w1.heap.size wr w1.heap.size (Value.slice gP O.length gQ) (Value.slice fZ R.length f_)) (fun z g1 g2=>⟨by have:=je.out.2.2; omega,g2,fun e=>by have:=je.out.1 z e; omega,fun e=>by have:=je.out.2.1 z e; omega,by have:=je.out.2.2; omega⟩)))
     have L8:=ι wJ;have wK:=ι (show (O.map Ma.ah).length<1000000 by rw [List.length_map,nz.out.iY]; omega);have L9:=ι (show (R.map (List.map Ma.ah)).length<1000000 by rw [List.length_map,nz.out.il]; omega);clear R1 L7 CH RP R5 FT wJ;go_upto_region 12 with fail;have cO:Below wr.heap.size wr wr.drew:=(Below.refl _ _).drew;replace PD:=ι (PD.out.below cO);replace K1:=ι (Rg.acc K1.out cO);replace jn:=ι (jn.out.below cO);clear cO;have aw:Below wr.heap.size wr wr.drew:=(Below.refl _ _).drew;generalize cx F wr wr.drew=F1 at *;clear aw;refine Rg.Any.begin (S:=Rg.aH 11 (fun W:World=>dh W w1.heap.size (.int .i64 ((n:Nat):Int)) (Value.slice gP O.length gQ) (Value.slice fZ R.length f_)∧Below w1.heap.size w1 W) (fun _=>True)) mix ?_;generalize wr.drew=kA at *;have hS:∀ (l:Array Bool) W,(fun W:World=>dh W w1.heap.size (.int .i64 ((n:Nat):Int)) (Value.slice gP O.length gQ) (Value.slice fZ R.length f_)∧Below w1.heap.size w1 W) W→Rg.aH 11 (fun W:World=>dh W w1.heap.size (.int .i64 ((n:Nat):Int)) (Value.slice gP O.length gQ) (Value.slice fZ R.length f_)∧Below w1.heap.size w1 W) (fun _=>True) l W:=fun l W h=>⟨.inr h,trivial⟩
     have dF:∀ (l:Array Bool) W,l.getD 11 false=true→Rg.aH 11 (fun W:World=>dh W w1.heap.size (.int .i64 ((n:Nat):Int)) (Value.slice gP O.length gQ) (Value.slice fZ R.length f_)∧Below w1.heap.size w1 W) (fun _=>True) l W:=fun l W h=>⟨.inl h,trivial⟩;have hI:(fun W:World=>dh W w1.heap.size (.int .i64 ((n:Nat):Int)) (Value.slice gP O.length gQ) (Value.slice fZ R.length f_)∧Below w1.heap.size w1 W) kA:=⟨PD.out.ch.j0,K1.out⟩
     refine c7 0 11 (.pointer (some ⟨w1.heap.size,1,none⟩)) 56 rfl rfl (g7 fun w=>aA _ rfl rfl (cq _ _)) (hS _ _ hI)<|f9 1 11 (.slice gP O.length gQ) 57 rfl rfl (g6 ⟨w1.heap.size,1,none⟩ (fun W hW=>Rg.ae _ _ Tryz.underlying51 hW.1.c1)) (hS _ _ hI)<|c8 2 11 (.slice (some ⟨sb,0,none⟩) l.length sc) 58 (hS _ _ hI)<|c7 5 11 (.pointer (some ⟨w1.heap.size,2,none⟩)) 61 rfl rfl (g7 fun w=>aA _ rfl rfl (dE _ _)) (hS _ _ hI)<|f9 6 11 (.slice fZ R.length f_) 62 rfl rfl (g6 ⟨w1.heap.size,2,none⟩ (fun W hW=>Rg.ae _ _ Tryz.underlying52 hW.1.c2)) (hS _ _ hI) ?_;go_frame
     refine c8 7 11 (.slice ta (rs.map Ma.ah).length tc) 63 (hS _ _ hI) ?_;go_frame
     refine Rg.Any.LX (i:=3) (k:=4) (j:=8) (q:=10) (di:=59) (dk:=60) (dj:=64) (dq:=66) (vq:=.pointer (some ⟨w1.heap.size,1,none⟩)) (I:=fun W=>(fun W:World=>dh W w1.heap.size (.int .i64 ((n:Nat):Int)) (Value.slice gP O.length gQ) (Value.slice fZ R.length f_)∧Below w1.heap.size w1 W) W∧kA.heap.size≤W.heap.size) (R0:=fun W=>wF w1.heap.size W w1.heap.size (.int .i64 ((n:Nat):Int)) (Value.slice gP O.length gQ) (Value.slice fZ R.length f_) (Value.slice gP O.length gQ) (Value.slice fZ R.length f_) (O.map Ma.ah) (R.map (List.map Ma.ah)) (.slice (some ⟨sb,0,none⟩) l.length sc) (Ma.ah l) (.slice ta (rs.map Ma.ah).length tc) (rs.map Ma.ah)) (Ri:=fun u W=>Rg.fP kA.heap.size [.slice (some ⟨sb,0,none⟩) l.length sc] u W) (Rk:=fun x W=>fE w1.heap.size W w1.heap.size (.int .i64 ((n:Nat):Int)) (Value.slice gP O.length gQ) (Value.slice fZ R.length f_) x (Value.slice fZ R.length f_) (O.map Ma.ah++[Ma.ah l]) (R.map (List.map Ma.ah))∧Rg.bs (iJ w1.heap.size W w1.heap.size x (Value.slice fZ R.length f_)) W (.slice ta (rs.map Ma.ah).length tc) (rs.map Ma.ah)∧∃ a c,x=.slice a (O.length+1) c) (Rj:=fun v W=>Rg.fP kA.heap.size [.slice ta (rs.map Ma.ah).length tc] v W) (fun l W h=>hS l W h.1)
      (by decide) (by decide) (by decide) (by decide) (by decide) (by decide) (by kernel_rfl) (by kernel_rfl) (by kernel_rfl) (by kernel_rfl) (by kernel_rfl) ?_ ?_
      (fun _ _ hb h=>h.below hb) (fun _ _ _ hb h=>h.below hb) (fun _ _ _ hb h=>⟨h.1.below hb,ny h.2.1 hb,h.2.2⟩) (fun _ _ _ hb h=>h.below hb) ?_ ?_ ?_ ⟨hI,Nat.le_refl _⟩ (PD.out) ?_
     ·intro u x W m hs h
      exact Rg.Any.s4 (i:=10) (t:=11) (v:=.pointer (some ⟨w1.heap.size,1,none⟩)) (some 66) rfl rfl (by kernel_rfl) (by kernel_rfl) (by kernel_rfl) (fun _ _ _ h=>h) rfl (g7 fun w=>aA _ rfl rfl (cq _ _)) hs h
     ·intro u v x W m hs h
      exact Rg.Any.s4 (i:=10) (t:=11) (v:=.pointer (some ⟨w1.heap.size,1,none⟩)) (some 66) rfl rfl (by kernel_rfl) (by kernel_rfl) (by kernel_rfl) (fun _ _ _ h=>h) rfl (g7 fun w=>aA _ rfl rfl (cq _ _)) hs h
     ·intro b hb W hW
      have nZ:Below W.heap.size W (W.alloc (.cells #[.slice (some ⟨sb,0,none⟩) l.length sc] 25)):=(Below.refl _ _).alloc (Nat.le_refl _) _
      exact Rg.kV rfl rfl (by rcases hb with rfl | ⟨u,rfl⟩ <;> rfl) (Rg.aC _ _ _ rfl (.slice (some ⟨sb,0,none⟩) l.length sc) (by rcases hb with rfl | ⟨u,rfl⟩ <;> rfl) (rO W _ ⟨_,_,_,rfl⟩)) ⟨⟨⟨hW.1.1.below nZ,Rg.acc hW.1.2 nZ⟩,by simp; have:=hW.2; omega⟩,Rg.fP.new W [.slice (some ⟨sb,0,none⟩) l.length sc] 25 hW.2,nZ⟩
     ·intro b hb W hW
      have nZ:Below W.heap.size W (W.alloc (.cells #[.slice ta (rs.map Ma.ah).length tc] 22)):=(Below.refl _ _).alloc (Nat.le_refl _) _
      exact Rg.kV rfl rfl (by rcases hb with rfl | ⟨u,rfl⟩ | ⟨u,v,rfl⟩ <;> rfl) (Rg.aC _ _ _ rfl (.slice ta (rs.map Ma.ah).length tc) (by rcases hb with rfl | ⟨u,rfl⟩ | ⟨u,v,rfl⟩ <;> rfl) (p6 W _ ⟨_,_,_,rfl⟩)) ⟨⟨⟨hW.1.1.below nZ,Rg.acc hW.1.2 nZ⟩,by simp; have:=hW.2; omega⟩,Rg.fP.new W [.slice ta (rs.map Ma.ah).length tc] 22 hW.2,nZ⟩
     ·intro u b hb W hW h0 hu
      obtain ⟨pu,rfl,uX,L_,yp⟩:=hu;obtain ⟨a2,c2,X,r1,r2,r3,r4⟩:=h0.ch.nu hW.1.2.size h0.f5 rfl wK.out (yp 0 (by simp)) 51;have jH:=Rg.Kp.cH r3 (M:=fun z=>(Value.slice gP O.length gQ).ownBlock=some z) (fun _ e=>e)
      exact Rg.kV rfl rfl (by rcases hb with rfl | ⟨v,rfl⟩ <;> rfl) (Rg.aP _ _ _ rfl (by rcases hb with rfl | ⟨v,rfl⟩ <;> rfl) (by rcases hb with rfl | ⟨v,rfl⟩ <;> rfl) r1) ⟨⟨⟨r2.j0,hW.1.2.grown r3 hW.1.2.size (fun j e=>(h0.ch.yB.1 j e).1)⟩,Nat.le_trans hW.2 r3.size⟩,⟨r2,bs.mono (bs.kp h0.f6 jH (fun z g e=>g.2.2.1 e)) r4,_,_,by rw [List.length_map]⟩,fun v hv=>hv.grown r3 (fun j e=>Nat.lt_of_lt_of_le (je.out.1 j e) jn.out.le)⟩
     rintro O9 fu fx fv hb hk hj;have kd:=hb.1;have Qr:=hb.2;clear hb hI;go_frame;have FK:=ι hk;have FJ:=ι hj;obtain ⟨pj,Mb,VD,Ab,mA⟩:=FJ.out;subst Mb;obtain ⟨a2,c2,Jg⟩:=FK.out.2.2;subst Jg;obtain ⟨a3,c3,X3,q1,q2,q3⟩:=FK.out.1.LS kd.2.size FK.out.2.1 rfl L9.out (mA 0 (by simp)) 52;rw [List.length_map] at q1 q2;have lZ:=(show _∧_ from ⟨q2.j0,kd.2.grown q3 kd.2.size (fun j e=>(FK.out.1.yB.2 j e).1)⟩);refine g5 9 65 rfl rfl (Rg.aP _ _ _ rfl rfl rfl q1) (hS _ _ lZ) ?_;go_frame;have KX:=ι lZ.2;refine Rg.Any.one (i:=11) (by kernel_rfl) (Rg.Any.fl none rfl rfl rfl (Rg.az _ _ _ rfl _ rfl _ rfl (Rg.cn _ wE q2.j0.c1 q2.j0.f1)) (dF _ _ rfl) ?_);go_frame;refine c7 12 11 (.pointer (some ⟨w1.heap.size,2,none⟩)) 67 rfl rfl (g7 fun w=>aA _ rfl rfl (dE _ _)) (dF _ _ rfl) ?_;go_frame
     refine Rg.Any.one (i:=13) (by kernel_rfl) (Rg.Any.fl none rfl rfl rfl (Rg.az _ _ _ rfl _ rfl _ rfl (Rg.cn _ uA (q2.j0.Ig _).c2 (q2.j0.Ig _).f2)) (dF _ _ rfl) ?_);go_frame;refine Rg.Any.done (by kernel_rfl) ?_ _;clear dF;clear hS lZ;have yC:=q2.store (.slice a2 (O.length+1) c2) (.slice a3 (R.length+1) c3);have Mc:=(KX.out.setCell (p:=⟨w1.heap.size,1,none⟩) (Nat.le_refl _) (.slice a2 (O.length+1) c2)).setCell (p:=⟨w1.heap.size,2,none⟩) (Nat.le_refl _) (.slice a3 (R.length+1) c3);generalize (X3.setCell ⟨w1.heap.size,1,none⟩ (.slice a2 (O.length+1) c2)).setCell ⟨w1.heap.size,2,none⟩ (.slice a3 (R.length+1) c3)=dM at *;have R4:=ι (show fE w1.heap.size dM w1.heap.size (.int .i64 ((n:Nat):Int)) (.slice a2 (O.length+1) c2) (.slice a3 (R.length+1) c3) (.slice a2 (O.length+1) c2) (.slice a3 (R.length+1) c3) ((O++[l]).map Ma.ah) ((R++[rs]).map (List.map Ma.ah)) by rw [List.map_append,List.map_append]; exact yC)
     have K2:=ι Mc;have E4:=ι (nz.out.snoc tH.out (fun p=>(E1.out p).trans ((HL.out k bd.out).orb p)) L8.out rZ.out);clear yC Mc q1 q2 q3 KX FK FJ PD;go_wp2
     go_roundw
     case rel=>exact ⟨k+1,_,_,O++[l],R++[rs],by go_num,bd.out,R4,K2,E4⟩
     case measure=>simp [intOf]; have:=bd.out; omega
  ·obtain rfl:k=n:=by omega
   have iH:¬ (k:Int)<(k:Int):=by omega
   have TT:=ι (FT.out.below K1.out);go_upto_region 14 with fail
   refine b6<|i8 (Rg.nh _ _ rfl ⟨w1.heap.size,0,none⟩ rfl (nx CH.out.j0))<|Rg.aF none rfl rfl (Rg.az _ _ _ rfl _ rfl _ rfl (bC _ _ _ _ _ _ _ TT.out)) ?_;go_frame
   have lF:=Rg.Kp.trans (Rg.Kp.trans (Rg.Kp.aS (M:=fun z=>z=w.heap.size) (w:=wr) (a:=⟨w.heap.size,0,none⟩) (v:=.int .i64 ((k:Nat):Int)) rfl) (Rg.Kp.aS (M:=fun z=>z=w.heap.size) (a:=⟨w.heap.size,1,none⟩) (v:=(Value.slice gP O.length gQ)) rfl) (fun _ _ e=>e)) (Rg.Kp.aS (M:=fun z=>z=w.heap.size) (a:=⟨w.heap.size,2,none⟩) (v:=(Value.slice fZ R.length f_)) rfl) (fun _ _ e=>e);have bH:=CH.out.kp lF (fun z e=>by rw [e]; exact LZ);have jK:=TT.out.set (.int .i64 ((k:Nat):Int)) (Value.slice gP O.length gQ) (Value.slice fZ R.length f_);have gR:=((((K.out.trans (K1.out.mono K.out.size)).setCell (p:=⟨w.heap.size,0,none⟩) (Nat.le_refl _) (.int .i64 ((k:Nat):Int))).setCell (p:=⟨w.heap.size,1,none⟩) (Nat.le_refl _) (Value.slice gP O.length gQ)).setCell (p:=⟨w.heap.size,2,none⟩) (Nat.le_refl _) (Value.slice fZ R.length f_))
   have jf:=nz.out.Ct n5.out
   have Md:∀ (X:World) (c0 c1 c2 a b:Value),fE w1.heap.size X w1.heap.size c0 c1 c2 a b (O.map Ma.ah) (R.map (List.map Ma.ah))→fj (fun z=>w.heap.size≤z) X b (R.map (List.map Ma.ah)):=fun _ _ _ _ _ _ h=>by
    obtain ⟨us,h1,h2⟩:=h.VA (by rw [List.length_map,nz.out.il]; omega);exact ⟨us,h1.mono (fun z hz=>by omega),bN.mono h2 (fun z hz=>by omega)⟩
   go_wp2;exact bodyPost_ret (oQ rfl _ rfl jK) rfl ⟨_,_,rfl,O,bs.mono (bH.Vz (by rw [List.length_map,nz.out.iY]; omega)) (fun z hz=>by omega),R,Md _ _ _ _ _ _ bH,jf,gR⟩
end Go.Proofs.YtbngdgfmlmkgiaaGreat

namespace Go.Proofs.YtbngdgfmlmkgiaaGreat
open Go.RowKit
open Go.Proofs
open Go.Proofs.Ob
open Go.Proofs.Cm (Lv bf bX)
attribute [local irreducible] Go.Calls
theorem Au (args:Array Value) (w:World):(callFunc 34 args).run Tryz.prog w=.ok (.enter 34 args) w:=by kernel_rfl
theorem Me (args:Array Value) (w:World):(callFunc 62 args).run Tryz.prog w=.ok (.enter 62 args) w:=by kernel_rfl
theorem Mf (args:Array Value) (w:World):(callFunc 63 args).run Tryz.prog w=.ok (.enter 63 args) w:=by kernel_rfl
def Ij (w:World) (cv:Value) (n:Nat) (gs:List (List Nat)):Prop:=∃ ov rv O R,cv=.agg #[.int .i64 ((n:Nat):Int),ov,rv]∧Rg.Rows w ov (O.map Ma.ah)∧fL w rv (R.map (List.map Ma.ah))∧Cm.ar n (Cm.Gr n (·∈gs)) O R
def jg:Value:=.agg #[.int .i64 0,.slice none 0 0,.slice none 0 0]
def iL (w:World) (d:Int) (ll:List (List Int)) (cv:Value) (c:Int):Prop:=(c≠0∧cv=jg)∨(c=0∧∃ n gs,d=((n:Nat):Int)∧ll=gs.map Ma.ah∧1≤n∧n≤64∧Ij w cv n gs)
theorem Ij.below {w w':World} {cv:Value} {n:Nat} {gs:List (List Nat)} (h:Ij w cv n gs) (hb:Below w.heap.size w w'):Ij w' cv n gs:=by
 obtain ⟨ov,rv,O,R,h1,h2,h3,h4⟩:=h;exact ⟨ov,rv,O,R,h1,h2.below hb,h3.below hb,h4⟩
theorem iL.below {w w':World} {d:Int} {ll:List (List Int)} {cv:Value} {c:Int} (h:iL w d ll cv c) (hb:Below w.heap.size w w'):iL w' d ll cv c:=by
 rcases h with h | ⟨h0,n,gs,h1,h2,h3,h4,h5⟩
 ·exact .inl h
 ·exact .inr ⟨h0,n,gs,h1,h2,h3,h4,h5.below hb⟩
theorem Cv (aZ:1≤n) (bn:n≤64) {w:World} {v:Value} (hv:Rg.Rows w v (gs.map Ma.ah)) (hg:∀ s∈gs,Cm.Gd n s) (dm:gs.length≤1000000) :
  Calls Tryz.prog 62 #[.int .i64 ((n:Nat):Int),v] w fun e w'=>∃ (tb L:Nat) (F':Nat→Prop) (T':bf) (V':Nat→LV),e=.returned (.pointer (some ⟨tb,0,none⟩))∧aV F' L n w' T' V'∧CF F' w' tb 0 (.int .i64 ((n:Nat):Int))∧CF F' w' tb 1 (.slice (some ⟨L,0,none⟩) n n)∧Cm.j9 n (·∈gs) T'∧Below w.heap.size w w':=by
 refine (EO aZ bn (GS.Cn hv) hg dm).mono ?_;rintro e w' ⟨tb,L,F',T',V',rfl,hk,h1,h2,h3,h4⟩;exact ⟨tb,L,F',T',V',rfl,h1,h2,h3,h4,hk.kf.below (Nat.le_refl _) (fun _ h=>h)⟩
theorem fL.shape {w:World} {v:Value} {l7:List (List (List Int))} (h:fL w v l7):∃ a c,v=.slice a l7.length c:=by
 obtain ⟨us,⟨a,cap,e,_⟩,h2,_⟩:=h;exact ⟨a,cap,by rw [e,h2]⟩
theorem Jt (gv:Value) (d:Int) (ll:List (List Int)) (w:World) (h:Rg.Rows w gv ll) :
  Calls Tryz.prog 35 #[.agg #[.int .i64 d,gv]] w fun e w'=>∃ cv,e=.returned (.tuple #[cv,.int .i64 (Ma.bJ d ll)])∧iL w' d ll cv (Ma.bJ d ll)∧Below w.heap.size w w':=by
 obtain ⟨ga,gc,rfl,dS,eF⟩:=GI.enter (d) h;have K:=ι eF;have G0:=ι dS;clear h dS eF
 go_enter Tryz.func35,Tryz.ntmps35
 go_upto_region 0 with fail
 refine b6<|i8 (Rg.ba _ _ rfl rfl) ?_;go_frame
 generalize w.alloc (.cells #[.int .i64 d,.slice ga ll.length gc] 24)=w0 at *;have jq:=ι K.out.size;have bA:=dh.new w0 (.int .i64 0) (.slice none 0 0) (.slice none 0 0);refine i8 (cz rfl) ?_;go_frame;have hb:=(Below.refl w0.heap.size w0).alloc (Nat.le_refl _) (.cells #[.int .i64 0,.slice none 0 0,.slice none 0 0] 54);generalize w0.alloc (.cells #[.int .i64 0,.slice none 0 0,.slice none 0 0] 54)=w1 at *;replace G0:=ι (G0.out.below hb);replace K:=ι (Rg.acc K.out hb);clear hb;have FT:=ι bA;clear bA;go_upto_region 1 with fail
 refine b6<|i8 (d8 (.agg #[.int .i64 d,.slice ga ll.length gc]) ⟨w.heap.size,0,none⟩ (aT G0.out.c0 G0.out.c1)) ?_;go_frame
 refine d4 6 (aq 34 _ _ rfl rfl (Au _ _)) ?_;refine (iD _ _ _ w1 G0.out.rows).mono ?_;rintro e1 w2 ⟨rfl,hb⟩;refine ⟨_,rfl,?_⟩;go_frame;replace G0:=ι (G0.out.below hb);replace FT:=ι (FT.out.below hb);replace K:=ι (Rg.acc K.out hb);clear hb;refine i4 rfl ?_;go_frame
 by_cases hz:Ma.bJ d ll=0
 ·obtain ⟨n,gs,hd,l9,nr,aZ,bn,dm⟩:=iz hz
  have cD:∀ s∈gs,Cm.Gd n s:=fun s hs=>nr s hs;have uY:=ι l9;have j1:=ι dm;have cW:=ι cD;subst hd;clear l9 dm nr cD;go_upto_region 2 with fail
  refine b6<|i4 rfl<|i8 (d9 (.bool false) .neq (h:=ax _ d6)) ?_;go_frame
  go_upto_region 4 with fail
  refine b6<|i8 (bL _ rfl rfl)<|i8 (d8 (.int .i64 ((n:Nat):Int)) ⟨w.heap.size,0,none⟩ (af G0.out.c0))<|i8 (cI _ rfl rfl)<|i8 (d8 (.slice ga ll.length gc) ⟨w.heap.size,1,none⟩ (Rg.ae _ _ Tryz.underlying22 G0.out.c1)) ?_;go_frame
  have fF:=ι FT.out.lt;refine d4 15 (aD 62 _ _ _ rfl rfl rfl (Me _ _)) ?_;refine (Cv aZ bn (by have:=G0.out.rows; rw [show gs.map Ma.ah=ll from uY.out.symm]; exact this) cW.out (by have:=j1.out; omega)).mono ?_;rintro e1 w3 ⟨tb,L,F1,T1,V1,rfl,wk,ux,uy,Mg,hb⟩;have HB:=ι Mg;have R7:=ι (Nat.lt_of_lt_of_le fF.out hb.size);refine ⟨_,rfl,?_⟩;go_frame;replace G0:=ι (G0.out.below hb);replace FT:=ι (FT.out.below hb);replace K:=ι (Rg.acc K.out hb);clear hb;have HT:=ι wk;have C0:=ι ux;have C1:=ι uy;clear wk ux uy Mg;refine d4 16 (aq 63 _ _ rfl rfl (Mf _ _)) ?_;refine (wG aZ bn HT.out C0.out C1.out (Cm.Gr.fW cW.out) (HB.out.H8 (by omega) cW.out) (fun j hj=>(HB.out.full j hj).1)).mono ?_;rintro e1 w4 ⟨ov,rv,O,R,rfl,hO,hR,Cw,hb⟩;obtain ⟨oa,oc,rfl,_⟩:=hO.rows.shape;obtain ⟨ra,rc,rfl⟩:=hR.rows.shape
  have HO:=ι hO;have HR:=ι hR;have cN:=ι Cw;clear hO hR Cw;refine ⟨_,rfl,?_⟩;go_frame;replace G0:=ι (G0.out.below hb);replace FT:=ι (FT.out.below hb);replace HT:=ι (HT.out.below hb);replace C0:=ι (C0.out.below hb);replace C1:=ι (C1.out.below hb);replace K:=ι (Rg.acc K.out hb);clear hb
  refine Rg.aF none rfl rfl (Rg.az _ _ _ rfl _ rfl _ rfl (bC _ _ _ _ _ _ _ FT.out))<|i4 rfl ?_;go_frame
  have jK:=FT.out.set (.int .i64 ((n:Nat):Int)) (.slice oa (O.map Ma.ah).length oc) (.slice ra (R.map (List.map Ma.ah)).length rc);have lF:=Rg.Kp.trans (Rg.Kp.trans (Rg.Kp.aS (M:=fun z=>z=w0.heap.size) (w:=w4) (a:=⟨w0.heap.size,0,none⟩) (v:=.int .i64 ((n:Nat):Int)) rfl) (Rg.Kp.aS (M:=fun z=>z=w0.heap.size) (a:=⟨w0.heap.size,1,none⟩) (v:=(.slice oa (O.map Ma.ah).length oc)) rfl) (fun _ _ e=>e)) (Rg.Kp.aS (M:=fun z=>z=w0.heap.size) (a:=⟨w0.heap.size,2,none⟩) (v:=(.slice ra (R.map (List.map Ma.ah)).length rc)) rfl) (fun _ _ e=>e);have hro:=bs.rows (bs.kp HO.out lF (fun z g e=>by have:=R7.out; omega));have Mh:=(HR.out.kp lF (fun z g e=>by have:=R7.out; omega)).rows;have gR:=((K.out.setCell (p:=⟨w0.heap.size,0,none⟩) jq.out (.int .i64 ((n:Nat):Int))).setCell (p:=⟨w0.heap.size,1,none⟩) jq.out (.slice oa (O.map Ma.ah).length oc)).setCell (p:=⟨w0.heap.size,2,none⟩) jq.out (.slice ra (R.map (List.map Ma.ah)).length rc)
  generalize ((w4.setCell ⟨w0.heap.size,0,none⟩ (.int .i64 ((n:Nat):Int))).setCell ⟨w0.heap.size,1,none⟩ (.slice oa (O.map Ma.ah).length oc)).setCell ⟨w0.heap.size,2,none⟩ (.slice ra (R.map (List.map Ma.ah)).length rc)=dM at *;have ke:=ι jK
  have ir:=ι (show ∃ cv,Ending.returned (.tuple #[.agg #[.int .i64 ((n:Nat):Int),(.slice oa (O.map Ma.ah).length oc),(.slice ra (R.map (List.map Ma.ah)).length rc)],.int .i64 0])=.returned (.tuple #[cv,.int .i64 (Ma.bJ ((n:Nat):Int) ll)])∧iL dM ((n:Nat):Int) ll cv (Ma.bJ ((n:Nat):Int) ll)∧Below w.heap.size w dM from
   ⟨_,by rw [hz],.inr ⟨hz,n,gs,rfl,uY.out,aZ,bn,_,_,O,R,rfl,hro,Mh,cN.out⟩,gR⟩)
  clear jK lF hro Mh gR;go_wp2;exact bodyPost_ret (bT (p:=2) (u:=3) rfl _ rfl rfl ke.out) rfl ir.out
 ·skip
  go_upto_region 2 with fail
  refine b6<|i4 rfl<|i8 (d9 (.bool true) .neq (h:=ax _ d5)) ?_;go_frame
  go_upto_region 3 with fail
  refine b6<|i8 (eZ rfl)<|i4 rfl<|Rg.aF none rfl rfl (Rg.az _ _ _ rfl _ rfl _ rfl (bC _ _ _ _ _ _ _ FT.out))<|i4 rfl ?_;go_frame
  have jK:=FT.out.set (.int .i64 0) (.slice none 0 0) (.slice none 0 0);have gR:=((K.out.setCell (p:=⟨w0.heap.size,0,none⟩) jq.out (.int .i64 0)).setCell (p:=⟨w0.heap.size,1,none⟩) jq.out (.slice none 0 0)).setCell (p:=⟨w0.heap.size,2,none⟩) jq.out (.slice none 0 0);generalize ((w2.setCell ⟨w0.heap.size,0,none⟩ (.int .i64 0)).setCell ⟨w0.heap.size,1,none⟩ (.slice none 0 0)).setCell ⟨w0.heap.size,2,none⟩ (.slice none 0 0)=dM at *;have ke:=ι jK
  have ir:=ι (show ∃ cv,Ending.returned (.tuple #[jg,.int .i64 (Ma.bJ d ll)])=.returned (.tuple #[cv,.int .i64 (Ma.bJ d ll)])∧iL dM d ll cv (Ma.bJ d ll)∧Below w.heap.size w dM from
   ⟨_,rfl,.inl ⟨hz,rfl⟩,gR⟩)
  clear jK gR;go_wp2;exact bodyPost_ret (bT (p:=2) (u:=3) rfl _ rfl rfl ke.out) rfl ir.out
end Go.Proofs.YtbngdgfmlmkgiaaGreat

namespace Go.Proofs.YtbngdgfmlmkgiaaGreat
open Go.RowKit
open Go.Proofs
open Go.Proofs.Ob
open Go.Proofs.Cm (Lv bf bX)
attribute [local irreducible] Go.Calls Go.wpList
def cY (d:Int) (ll:List (List Int)):Int:=if 1≤d∧d≤64 then (if ll.length≤4096 then Ma.iR d ll else 4) else 2
theorem R8 (h1:1≤d) (h2:d≤64) (h:Ma.iR d ll=0):∃ (n:Nat) (gs:List (List Nat)),d=n∧ll=gs.map Ma.ah∧(∀ s∈gs,Cm.Gd n s)∧1≤n∧n≤64∧gs.length=ll.length:=by
 have hz:=Ma.sV h;obtain ⟨D,rfl⟩:∃ D:Nat,d=D:=⟨d.toNat,by omega⟩
 have hex:∀ l∈ll,∃ p,l=Ma.ah p∧Ma.lB p∧p.length=D:=fun l hl=>by
  obtain ⟨a,b⟩:=hz l hl;obtain ⟨_,_,c⟩:=Ma.jC a;obtain ⟨p,rfl,hp⟩:=Ma.mn c;rw [Ma.aG] at b;exact ⟨p,rfl,hp,by omega⟩
 clear h hz
 have:∃ gs:List (List Nat),ll=gs.map Ma.ah∧GG D gs:=by
  induction ll with
  | nil=>exact ⟨[],rfl,fun s hs=>by simp at hs⟩
  | cons l r ih =>
   obtain ⟨gs,rfl,hg⟩:=ih (fun x hx=>hex x (List.mem_cons_of_mem _ hx));obtain ⟨p,rfl,h3,h4⟩:=hex l (List.mem_cons_self ..)
   exact ⟨p :: gs,rfl,fun s hs=>by
    rcases List.mem_cons.1 hs with rfl | hs
    ·exact ⟨h3,h4⟩
    ·exact hg s hs⟩
 obtain ⟨gs,rfl,hg⟩:=this;exact ⟨D,gs,rfl,rfl,fun s hs=>hg s hs,by omega,by omega,by simp⟩
theorem mP {w:World} {td:Nat} (h:dh X td u1 u2 u3) (hk:Below w.heap.size w X) (n8:w.heap.size≤td):dh (((X.setCell ⟨td,0,none⟩ (.int .i64 0)).setCell ⟨td,1,none⟩ (.slice none 0 0)).setCell ⟨td,2,none⟩ (.slice none 0 0)) td (.int .i64 0) (.slice none 0 0) (.slice none 0 0)∧Below w.heap.size w (((X.setCell ⟨td,0,none⟩ (.int .i64 0)).setCell ⟨td,1,none⟩ (.slice none 0 0)).setCell ⟨td,2,none⟩ (.slice none 0 0)) :=
 ⟨h.set _ _ _,((hk.setCell (p:=⟨td,0,none⟩) n8 (.int .i64 0)).setCell (p:=⟨td,1,none⟩) n8 (.slice none 0 0)).setCell (p:=⟨td,2,none⟩) n8 (.slice none 0 0)⟩
end Go.Proofs.YtbngdgfmlmkgiaaGreat

namespace Go.Proofs.YtbngdgfmlmkgiaaGreat
open Go.RowKit
open Go.Proofs
attribute [local irreducible] Go.Calls
def lg (ll:List (List Int)):Bool:=(ll.take 21).any (fun l=>decide (70<l.length)) || decide (20<ll.length)
theorem Ju (h:lg ll=false):ll.length≤20∧∀ l∈ll,l.length≤70:=by
 unfold lg at h;rw [Bool.or_eq_false_iff] at h
 have h1:ll.length≤20:=by have:=of_decide_eq_false h.2; omega
 refine ⟨h1,fun l hl=>?_⟩;have h2:=h.1;rw [List.take_of_length_le (by omega),List.any_eq_false] at h2;have h3:=h2 l hl;simp at h3;exact h3
theorem O_ (hk:k<ll.length) (VE:k<21) (h:70<ll[k].length):lg ll=true:=by
 unfold lg;rw [Bool.or_eq_true];refine .inl (List.any_eq_true.2 ⟨ll[k],?_,by simpa using h⟩);rw [List.mem_take_iff_getElem];exact ⟨k,by omega,rfl⟩
theorem Ik (h:∀ i (hi:i<ll.length),i<k→ll[i].length≤70) (hk:k=ll.length∨k=21):lg ll=decide (20<ll.length):=by
 unfold lg
 have:(ll.take 21).any (fun l=>decide (70<l.length))=false:=by
  rw [List.any_eq_false];intro l hl;rw [List.mem_take_iff_getElem] at hl;obtain ⟨i,hi,rfl⟩:=hl;have:=h i (by omega) (by omega);simp; omega
 rw [this,Bool.false_or]
theorem iF (gv:Value) (d:Int) (ll:List (List Int)) (w:World) (h:Rg.gD B w gv ll) :
  Calls Tryz.prog 14 #[.agg #[.int .i64 d,gv]] w fun e w'=>e=.returned (.bool (lg ll))∧Below w.heap.size w w':=by
 obtain ⟨ad,cap,rfl,hc,hlB,_,aN⟩:=h.shape;have eF:=ι (show Below w.heap.size w (w.alloc (.cells #[.int .i64 d,.slice ad ll.length cap] 24)) from (Below.refl _ _).alloc (Nat.le_refl _) _)
 have Mi:(w.alloc (.cells #[.int .i64 d,.slice ad ll.length cap] 24)).cell? ⟨w.heap.size,1,none⟩=some (.slice ad ll.length cap):=by rw [Rg.aM]; rfl
 have R9:=ι aN;clear aN h
 go_enter Tryz.func14,Tryz.ntmps14
 go_wp2;have Y8:=ι Mi;clear Mi;generalize hW:w.alloc (.cells #[.int .i64 d,.slice ad ll.length cap] 24)=W at *;clear hW
 go_loopw [3] (fun v wr=>∃ k:Nat,v=.int .i64 k∧k≤21∧k≤ll.length∧wr=W∧Hid (∀ i (hi:i<ll.length),i<k→ll[i].length≤70)) (fun v _=>21 - (intOf v).toNat)
 case atStart=>exact ⟨0,rfl,by omega,by omega,rfl,fun i hi h0=>by omega⟩
 case round =>
  obtain ⟨k,rfl,aag,bP,rfl,Hk⟩:=hrel;have Mi:=Y8.out
  by_cases aJ:k<ll.length
  ·by_cases VE:k<21
   ·obtain ⟨b,o,rfl,hb,hr⟩:=R9.out (by omega)
    obtain ⟨u,hu,kZ⟩:=hr k aJ;obtain ⟨ua,uc,rfl,wL,huB,tD,yD⟩:=kZ.shape;have fB:=(Rg.ng eF.out).1 b (o+k) hb;have ow:=fB.trans hu;clear hu fB hr kZ tD yD;generalize hn:ll[k].length=n at *;have Hn:=ι hn;clear hn
    by_cases wO:70<n
    ·go_wp2
     go_ret;exact ⟨by rw [O_ aJ VE (by rw [Hn.out]; exact wO)]; rfl,eF.out⟩
    ·go_wp2
     go_roundw
     case rel =>
      refine ⟨k+1,by go_num,by omega,by omega,by first | rfl | trivial,ι fun i hi h0=>?_⟩
      by_cases e:i=k
      ·subst e; rw [Hn.out]; omega
      ·exact Hk.out i hi (by omega)
     case measure=>simp [intOf]; omega
   ·obtain rfl:k=21:=by omega
    have hE:=ι (Ik Hk.out (.inr rfl));clear Hk;go_wp2;go_ret;exact ⟨by rw [hE.out]; simp; omega,eF.out⟩
  ·obtain rfl:k=ll.length:=by omega
   have hE:=ι (Ik Hk.out (.inl rfl));clear Hk;go_wp2;go_ret;exact ⟨by rw [hE.out]; simp; omega,eF.out⟩
end Go.Proofs.YtbngdgfmlmkgiaaGreat

namespace Go.Proofs.YtbngdgfmlmkgiaaGreat
open Go.RowKit
open Go.Proofs
open Go.Proofs.Ob
attribute [local irreducible] Go.Calls
theorem Av (v1 v2:Value) (l1 l2:List (List Int)) (w:World) (h1:Rg.Rows w v1 l1) (h2:Rg.Rows w v2 l2) :
  Calls Tryz.prog 101 #[v1,v2] w fun e w'=>e=.returned (.bool (decide (l1=l2)))∧∃ k,w'=w.drewN k:=by
 obtain ⟨a1,c1,rfl,n1,m1,_,k1⟩:=h1.shape;obtain ⟨a2,c2,rfl,n2,m2,_,k2⟩:=h2.shape;clear h1 h2;have K1:=ι k1;have K2:=ι k2;clear k1 k2;generalize hD:decide (l1=l2)=D;have HD:=ι hD;clear hD
 by_cases hl:l1.length=l2.length
 ·have hb:((l1.length:Int) != (l2.length:Int))=false:=by rw [hl]; simp
  have Hl:=ι hl;clear hl
  go_enter Tryz.func101,Tryz.ntmps101
  go_wp2;clear hb
  go_loopw [5] (fun v wr=>∃ i:Nat,v=.int .i64 i∧i≤l1.length∧Hid (∃ k,wr=w.drewN k)∧Hid (l1.take i=l2.take i)) (fun v _=>l1.length - (intOf v).toNat)
  case atStart=>exact ⟨0,rfl,by omega,⟨0,rfl⟩,by show _=_; simp⟩
  case round =>
   obtain ⟨i,rfl,hi,hw,hs⟩:=hrel
   by_cases aJ:i<l1.length
   ·have eE:i<l2.length:=by have:=Hl.out; omega
    obtain ⟨b1,o1,rfl,cV,d1⟩:=K1.out (by omega);obtain ⟨b2,o2,rfl,df,d2⟩:=K2.out (by omega);obtain ⟨u1,y1,nn⟩:=d1 i aJ;obtain ⟨u2,y2,ow⟩:=d2 i eE
    have x1:wr.cell? ⟨b1,o1+i,none⟩=some u1:=by obtain ⟨k,e⟩:=hw.out; rw [e]; exact y1
    have x2:wr.cell? ⟨b2,o2+i,none⟩=some u2:=by obtain ⟨k,e⟩:=hw.out; rw [e]; exact y2
    have kN:(i:Int)<(l2.length:Int):=by omega
    generalize hx:l1[i]=x at nn;generalize hy:l2[i]=y at ow;have Hx:=ι hx;have Hy:=ι hy;clear d1 d2 hx hy y1 y2;have hq:∀ n,_:=fun n=>vA u1 u2 x y (wr.drewN n) (by obtain ⟨k,e⟩:=hw.out; rw [e]; exact nn) (by obtain ⟨k,e⟩:=hw.out; rw [e]; exact ow)
    by_cases he:x=y
    ·have hdd:decide (x=y)=true:=decide_eq_true he
     have He:=ι he;rw [hdd] at hq;have Hq:=ι hq;clear he hdd hq;go_wp2
     go_quiet ((go_at_call 13; exact Calls.quiet_of (Hq.out _)))
     go_wp2
     go_roundw
     case rel=>exact ⟨i+1,by go_num,by omega,by obtain ⟨k,e⟩:=hw.out; rw [e]; exact ⟨_,World.drewN_drewN _ _ _⟩,by show _=_; rw [List.take_succ_eq_append_getElem aJ,List.take_succ_eq_append_getElem eE,hs.out,Hx.out,Hy.out,He.out]⟩
     case measure=>simp [intOf]; omega
    ·have hdd:decide (x=y)=false:=decide_eq_false he
     have He:=ι he;rw [hdd] at hq;have Hq:=ι hq;clear he hdd hq;go_wp2
     go_quiet ((go_at_call 13; exact Calls.quiet_of (Hq.out _)))
     go_wp2;go_ret;exact ⟨Rg.cG (by rw [← HD.out]; symm; rw [decide_eq_false_iff_not]; intro hc; subst hc; exact He.out (Hx.out.symm.trans Hy.out)),by obtain ⟨k,e⟩:=hw.out; rw [e]; exact ⟨_,World.drewN_drewN _ _ _⟩⟩
   ·go_wp2
    go_ret;refine ⟨Rg.cG ?_,hw.out⟩;rw [← HD.out]; symm;rw [decide_eq_true_eq];have h1:=hs.out
    rwa [List.take_of_length_le (by omega),List.take_of_length_le (by have:=Hl.out; omega)] at h1
 ·have hb:((l1.length:Int) != (l2.length:Int))=true:=by rw [bne_iff_ne]; omega
  have Hl:=ι hl;clear hl
  go_enter Tryz.func101,Tryz.ntmps101
  go_wp2;go_ret;exact ⟨Rg.cG (by rw [← HD.out]; symm; rw [decide_eq_false_iff_not]; intro hc; subst hc; exact Hl.out rfl),0,rfl⟩
theorem nB {l1 l2:List (List Int)} {w:World} {b:Bool} (h1:Rg.Rows w v1 l1) (h2:Rg.Rows w v2 l2) (hd:Hid (decide (l1=l2)=b)) :
  Calls Tryz.prog 101 #[v1,v2] w fun e w'=>e=.returned (.bool b)∧Below w.heap.size w w':=by
 refine (Av v1 v2 l1 l2 w h1 h2).mono ?_;rintro e w' ⟨rfl,k,rfl⟩;exact ⟨by rw [hd.out],Rg.drewN (Below.refl _ _) k⟩
theorem GI.fresh {w:World} {a:Option Addr} {c:Nat} (h:Rg.Rows w (.slice a ll.length c) ll) :
  ∃ W,(storeVar 24 ⟨w.heap.size,0,none⟩ (.agg #[.int .i64 d,.slice a ll.length c])).run Tryz.prog (w.alloc (.cells #[.int .i64 0,.slice none 0 0] 24))=.ok () W∧GI W w.heap.size d a ll c∧Below w.heap.size w W:=by
 have n0:(w.alloc (.cells #[.int .i64 0,.slice none 0 0] 24)).cell? ⟨w.heap.size,0,none⟩=some (.int .i64 0):=by rw [Rg.aM]; rfl
 have n1:(w.alloc (.cells #[.int .i64 0,.slice none 0 0] 24)).cell? ⟨w.heap.size,1,none⟩=some (.slice none 0 0):=by rw [Rg.aM]; rfl
 obtain ⟨p0,p1,p2⟩:=qf (.int .i64 d) (.slice a ll.length c) n0 n1 ((Below.refl w.heap.size w).alloc (Nat.le_refl _) _) (Nat.le_refl _);exact ⟨_,oG _ a _ c n0 n1 (dv _ _ _ 0 _) (dv _ _ _ 0 _),⟨p0,p1,Rg.Rows.below h p2,by simp⟩,p2⟩
end Go.Proofs.YtbngdgfmlmkgiaaGreat

namespace Go.Proofs.YtbngdgfmlmkgiaaGreat
open Go.RowKit
open Go.Proofs
open Go.Proofs.Ob
open Go.Proofs.Cm (Lv bf bX)
attribute [local irreducible] Go.Calls
def oR (w:World) (cv:Value) (n:Int) (OO:List (List Int)) (RR:List (List (List Int))):Prop:=∃ ov rv,cv=.agg #[.int .i64 n,ov,rv]∧Rg.Rows w ov OO∧fL w rv RR
theorem fL.nil (w:World) (a:Option Addr) (c:Nat) (hc:c≤maxLen):fL w (.slice a 0 c) []:=⟨[],Rg.cu.nil w a c hc,rfl,fun i h=>by simp at h⟩
theorem fL.Mj {w:World} {a:Option Addr} {c:Nat} {l7:List (List (List Int))} (h:fL w (.slice a m c) l7) (hk:k<l7.length):∃ b o,a=some ⟨b,o,none⟩∧b<w.heap.size∧∃ u,w.cell? ⟨b,o+k,none⟩=some u∧Rg.Rows w u l7[k]:=by
 obtain ⟨us,⟨a',cap,e,_,_,_,h5⟩,h2,h3⟩:=h;obtain ⟨b,o,e1,e2,e3⟩:=h5 (by omega);simp at e;obtain ⟨rfl,_,_⟩:=e;exact ⟨b,o,e1,e2,us[k],e3 k (by omega),h3 k (by omega) hk⟩
theorem oR.zero (w:World):oR w jg 0 [] []:=⟨_,_,rfl,Rg.Rows.nil w none 0 (Nat.zero_le _),fL.nil w none 0 (Nat.zero_le _)⟩
theorem iL.eq {w:World} {VF:Value} {c:Int} (h:iL w d ll cv c) (h':iL w' d ll VF c):∃ n OO RR,oR w cv n OO RR∧oR w' VF n OO RR:=by
 rcases h with ⟨h0,rfl⟩ | ⟨h0,n,gs,h1,h2,_,_,ov,rv,O,R,rfl,h3,h4,h5⟩
 ·rcases h' with ⟨_,rfl⟩ | ⟨O4,_⟩
  ·exact ⟨0,[],[],oR.zero w,oR.zero w'⟩
  ·exact absurd O4 h0
 ·rcases h' with ⟨O4,_⟩ | ⟨_,n',gs',U2,zW,_,_,r7,tJ,O',R',rfl,QZ,Y9,Y_⟩
  ·exact absurd h0 O4
  ·obtain rfl:n=n':=by omega
   obtain rfl:gs=gs':=by
    rw [h2] at zW
    have VG:∀ {a b:List (List Nat)},a.map Ma.ah=b.map Ma.ah→a=b:=fun {a b} e=>by
     have:=congrArg (List.map (List.map Int.toNat)) e;rw [List.map_map,List.map_map] at this
     have hid:∀ l:List (List Nat),l.map (List.map Int.toNat ∘ Ma.ah)=l:=fun l=>by
      conv=>rhs; rw [← List.map_id l]
      refine List.map_congr_left fun x _=>?_;show (Ma.ah x).map Int.toNat=x;unfold Ma.ah;rw [List.map_map]
      conv=>rhs; rw [← List.map_id x]
      exact List.map_congr_left fun y _=>by simp
     rwa [hid,hid] at this
    exact VG zW
   obtain ⟨rfl,rfl⟩:=h5.uniq Y_;exact ⟨n,_,_,⟨_,_,rfl,h3,h4⟩,⟨_,_,rfl,QZ,Y9⟩⟩
end Go.Proofs.YtbngdgfmlmkgiaaGreat

namespace Go.Proofs.Cm
open Go.Proofs
def cp (n:Nat) (tr:Tr):Tr:=fun i p=>if p=i then some (Ma.aR n) else tr i p
def kq (tr:Tr) (i p:Nat) (y:List Nat):Tr:=fun j q=>if j=i∧q=p then some y else tr j q
structure cE (n:Nat) (gs:List Nat→Prop) (tr:Tr):Prop where
 rp:Rp n 0 (cp n tr)
 diag:∀ i,tr i i=none
 lt:∀ i p u,tr i p=some u→i<n∧p<n
 mem:∀ i p u,tr i p=some u→Gr n gs u
theorem cA {tr:Tr} {i p:Nat} (h:p≠i):cp n tr i p=tr i p:=if_neg h
theorem cP {tr:Tr} {i:Nat}:cp n tr i i=some (Ma.aR n):=if_pos rfl
theorem cE.Mk {gs:List Nat→Prop}:cE n gs (fun _ _=>none):=by
 have h:∀ i p u,cp n (fun _ _=>none) i p=some u→p=i∧u=Ma.aR n:=fun i p u e=>by
  unfold cp at e
  by_cases h:p=i
  ·rw [if_pos h] at e; injection e with e; exact ⟨h,e.symm⟩
  ·rw [if_neg h] at e; cases e
 refine ⟨⟨fun i p u _ _ e=>?_,fun i p u _ hi e=>?_,fun i p u _ hi e=>?_,fun i _ _=>cP⟩,fun _=>rfl,fun i p u e=>(by cases e),fun i p u e=>(by cases e)⟩
 ·obtain ⟨_,rfl⟩:=h i p u e; exact dX n
 ·obtain ⟨_,rfl⟩:=h i p u e; exact Fx.one (by omega)
 ·obtain ⟨rfl,rfl⟩:=h i p u e; exact dY hi
theorem cE.put {gs:List Nat→Prop} {tr:Tr} (h:cE n gs tr) {i:Nat} (hi:i<n) (gy:Gd n y) (fy:Fx i y) (hy:Gr n gs y) (hn:cp n tr i (ap y i)=none) :
  cE n gs (kq tr i (ap y i) y)∧∀ j q u,cp n tr j q=some u→cp n (kq tr i (ap y i) y) j q=some u:=by
 have hne:ap y i≠i:=fun e=>by rw [e,cP] at hn; cases hn
 have ht:tr i (ap y i)=none:=by rwa [cA hne] at hn
 have hs:∀ j q u,cp n (kq tr i (ap y i) y) j q=some u→cp n tr j q=some u∨(j=i∧q=ap y i∧u=y):=fun j q u e=>by
  by_cases hd:q=j
  ·subst hd; rw [cP] at e; left; rw [cP]; exact e
  ·rw [cA hd] at e
   unfold kq at e
   by_cases hc:j=i∧q=ap y i
   ·rw [if_pos hc] at e; injection e with e; exact .inr ⟨hc.1,hc.2,e.symm⟩
   ·rw [if_neg hc] at e; left; rw [cA hd]; exact e
 refine ⟨⟨⟨fun j q u a b e=>?_,fun j q u a b e=>?_,fun j q u a b e=>?_,fun j _ _=>cP⟩,fun j=>?_,fun j q u e=>?_,fun j q u e=>?_⟩,fun j q u e=>?_⟩
 ·rcases hs j q u e with e | ⟨_,_,rfl⟩
  ·exact h.rp.gd j q u a b e
  ·exact gy
 ·rcases hs j q u e with e | ⟨rfl,_,rfl⟩
  ·exact h.rp.fx j q u a b e
  ·exact fy
 ·rcases hs j q u e with e | ⟨rfl,rfl,rfl⟩
  ·exact h.rp.at_ j q u a b e
  ·rfl
 ·unfold kq
  rw [if_neg (fun e=>hne (by omega))]; exact h.diag j
 ·unfold kq at e
  by_cases hc:j=i∧q=ap y i
  ·exact ⟨by omega,by rw [hc.2]; exact eH gy hi⟩
  ·rw [if_neg hc] at e; exact h.lt j q u e
 ·unfold kq at e
  by_cases hc:j=i∧q=ap y i
  ·rw [if_pos hc] at e; injection e with e; rw [← e]; exact hy
  ·rw [if_neg hc] at e; exact h.mem j q u e
 ·by_cases hd:q=j
  ·subst hd; rw [cP] at e ⊢; exact e
  ·rw [cA hd] at e ⊢
   unfold kq
   by_cases hc:j=i∧q=ap y i
   ·obtain ⟨rfl,rfl⟩:=hc; rw [ht] at e; cases e
   ·rw [if_neg hc]; exact e
end Go.Proofs.Cm

namespace Go.Proofs.YtbngdgfmlmkgiaaGreat
open Go.RowKit
open Go.Proofs
open Go.Proofs.Cm (Tr)
structure bW (F:Nat→Prop) (tb tf n:Nat) (w:World) (tr:Tr) (Rb:Nat→Nat) (V:Nat→Nat→Value):Prop where
 gB:∀ k,F k→k<w.heap.size
 out:∀ i,i<n→CF F w tb (tf+i) (.slice (some ⟨Rb i,0,none⟩) n n)
 nF:∀ i,i<n→¬ F (Rb i)
 inj:∀ i j,i<n→j<n→Rb i=Rb j→i=j
 row:∀ i,i<n→w.rowIs (Rb i) 26 n (V i)
 some_:∀ i p u,i<n→p<n→tr i p=some u→FP F w (V i p) u
 none_:∀ i p,i<n→p<n→tr i p=none→V i p=.slice none 0 0
theorem bW.lt {w:World} {tr:Tr} {Rb:Nat→Nat} {V:Nat→Nat→Value} (h:bW F tb tf n w tr Rb V) {i:Nat} (hi:i<n):Rb i<w.heap.size:=kJ (h.row i hi)
theorem bW.up {F:Nat→Prop} {tb tf n:Nat} {w w':World} {tr:Tr} {Rb:Nat→Nat} {V:Nat→Nat→Value} (h:bW F tb tf n w tr Rb V) (hb:Below w.heap.size w w'):bW (cx F w w') tb tf n w' tr Rb V:=by
 have hk:Rg.Kp (fun _=>False) w w':=Rg.Kp.aK hb
 refine ⟨fun k hk=>by rcases hk with hk | hk; exact Nat.lt_of_lt_of_le (h.gB k hk) hb.size; exact hk.2,fun i hi=>(h.out i hi).up hb,fun i hi e=>?_,h.inj,fun i hi=>eM (h.row i hi) hk id,fun i p u hi hp e=>(h.some_ i p u hi hp e).up hb,h.none_⟩
 have:=h.lt hi
 rcases e with e | e
 ·exact h.nF i hi e
 ·omega
theorem bW.below {F:Nat→Prop} {tb tf n:Nat} {w w':World} {tr:Tr} {Rb:Nat→Nat} {V:Nat→Nat→Value} (h:bW F tb tf n w tr Rb V) (hb:Below w.heap.size w w'):bW F tb tf n w' tr Rb V:=by
 have hk:Rg.Kp (fun _=>False) w w':=Rg.Kp.aK hb;exact ⟨fun k hf=>Nat.lt_of_lt_of_le (h.gB k hf) hb.size,fun i hi=>(h.out i hi).below hb,h.nF,h.inj,fun i hi=>eM (h.row i hi) hk id,fun i p u hi hp e=>(h.some_ i p u hi hp e).below hb,h.none_⟩
theorem bW.cell {F:Nat→Prop} {tb tf n:Nat} {w:World} {tr:Tr} {Rb:Nat→Nat} {V:Nat→Nat→Value} (h:bW F tb tf n w tr Rb V) {i p:Nat} (hi:i<n) (hp:p<n):w.cell? ⟨Rb i,p,none⟩=some (V i p):=(h.row i hi).cell hp
theorem bW.put {w:World} {tr:Tr} {Rb:Nat→Nat} {V:Nat→Nat→Value} (h:bW F tb tf n w tr Rb V) {i p:Nat} (hi:i<n) {yv:Value} (hy:FP F w yv y) :
  bW F tb tf n (w.setCell ⟨Rb i,p,none⟩ yv) (Cm.kq tr i p y) Rb (fun j q=>if j=i∧q=p then yv else V j q)∧KF F w (w.setCell ⟨Rb i,p,none⟩ yv):=by
 have hk:Rg.Kp (fun z=>z=Rb i) w (w.setCell ⟨Rb i,p,none⟩ yv):=Rg.Kp.aS rfl;have hF:∀ z,F z→¬ z=Rb i:=fun z hz e=>h.nF i hi (e▸hz);have gR:KF F w (w.setCell ⟨Rb i,p,none⟩ yv):=Rg.Kp.fN hk fun z e hz=>hF z hz e;refine ⟨⟨fun k hf=>Nat.lt_of_lt_of_le (h.gB k hf) hk.size,fun j hj=>(h.out j hj).kf gR,h.nF,h.inj,fun j hj=>?_,fun j q u hj hq e=>?_,fun j q hj hq e=>?_⟩,gR⟩
 ·by_cases e:j=i
  ·subst e
   refine ((h.row j hj).set p yv).congr fun q hq=>?_
   by_cases e2:q=p
   ·rw [if_pos e2,if_pos ⟨rfl,e2⟩]
   ·rw [if_neg e2,if_neg (fun e3=>e2 e3.2)]
  ·refine (eM (h.row j hj) hk (fun e2=>e (h.inj j i hj hi e2))).congr fun q hq=>?_
   rw [if_neg (fun e3=>e e3.1)]
 ·have e:(if j=i∧q=p then some y else tr j q)=some u:=e
  show FP F _ (if j=i∧q=p then yv else V j q) u
  by_cases hc:j=i∧q=p
  ·rw [if_pos hc] at e ⊢; injection e with e; subst e; exact hy.kf gR
  ·rw [if_neg hc] at e ⊢; exact (h.some_ j q u hj hq e).kf gR
 ·have e:(if j=i∧q=p then some y else tr j q)=none:=e
  show (if j=i∧q=p then yv else V j q)=_
  by_cases hc:j=i∧q=p
  ·rw [if_pos hc] at e; cases e
  ·rw [if_neg hc] at e ⊢; exact h.none_ j q hj hq e
def yE (n:Nat) (Rb:Nat→Nat) (k:Nat):Prop:=∃ i,i<n∧k=Rb i
structure KI (F0:Nat→Prop) (w:World) (F:Nat→Prop) (W:World) (M:Nat→Prop):Prop where
 kg:KG F0 w F W
 kp:Rg.Kp M w W
 new:∀ k,F k→F0 k∨w.heap.size≤k
theorem KI.refl {F:Nat→Prop} {w:World} {M:Nat→Prop} (h:∀ k,F k→k<w.heap.size):KI F w F w M:=⟨KG.refl h,Rg.Kp.refl _ _,fun _ h=>.inl h⟩
theorem KI.up {F0 F:Nat→Prop} {w W W':World} {M:Nat→Prop} (h:KI F0 w F W M) (hb:Below W.heap.size W W'):KI F0 w (cx F W W') W' M :=
 ⟨h.kg.up hb,Rg.Kp.trans (M:=M) h.kp (Rg.Kp.aK (M:=M) hb) (fun _ _ e=>e),fun k hk=>by
  rcases hk with hk | hk
  ·exact h.new k hk
  ·exact .inr (Nat.le_trans h.kp.size hk.1)⟩
theorem KI.put {w:World} (h:KI F0 w F W M) (hk:KF F W W') (hm:Rg.Kp M W W'):KI F0 w F W' M :=
 ⟨h.kg.v8 hk,Rg.Kp.trans (M:=M) h.kp hm (fun _ _ e=>e),h.new⟩
theorem bW.kp {w:World} {tr:Tr} {Rb:Nat→Nat} {V:Nat→Nat→Value} (h:bW F tb tf n w tr Rb V) (hk:Rg.Kp M w w') (hF:∀ k,F k→¬ M k) (hR:∀ i,i<n→¬ M (Rb i)):bW F tb tf n w' tr Rb V:=by
 have gR:KF F w w':=Rg.Kp.fN hk fun z e hz=>hF z hz e;exact ⟨fun k hf=>Nat.lt_of_lt_of_le (h.gB k hf) hk.size,fun i hi=>(h.out i hi).kf gR,h.nF,h.inj,fun i hi=>eM (h.row i hi) hk (hR i hi),fun i p u hi hp e=>(h.some_ i p u hi hp e).kf gR,h.none_⟩
end Go.Proofs.YtbngdgfmlmkgiaaGreat

namespace Go.Proofs.YtbngdgfmlmkgiaaGreat
open Go.RowKit
open Go.Proofs
open Go.Proofs.Cm (Tr)
attribute [local irreducible] Go.Calls
theorem E5 (args:Array Value) (w:World):(callFunc 52 args).run Tryz.prog w=.ok (.enter 52 args) w:=by kernel_rfl
theorem k8 (args:Array Value) (w:World):(callFunc 26 args).run Tryz.prog w=.ok (.enter 26 args) w:=by kernel_rfl
theorem ft:Rg.lU Tryz.prog 141 22 (.slice none 0 0) 24:=⟨Tryz.underlying141,gO,rfl,by decide⟩
theorem pK {b:List Nat} {w:World} (h1:FP F w v1 a) (h2:FP F w v2 b) (ga:Cm.Gd n a) (gb:Cm.Gd n b) (bn:n≤64) :
  Calls Tryz.prog 26 #[v1,v2] w fun e w'=>∃ v,e=.returned v∧FP (cx F w w') w' v (Ma.aj a b)∧Below w.heap.size w w':=by
 have e1:=ga.2;have e2:=gb.2;refine (iP v1 v2 a b w h1.np h2.np (fun x hx=>by have:=ga.1.1 x hx; omega) (by omega)).mono ?_;rintro e w' ⟨v,rfl,hv,hb⟩;exact ⟨v,rfl,FP.new hv,hb⟩
theorem Pa {w:World} (h1:FP F w v1 a) (ga:Cm.Gd n a) (bn:n≤64) :
  Calls Tryz.prog 52 #[v1] w fun e w'=>∃ v,e=.returned v∧FP (cx F w w') w' v (Ma.aO a)∧Below w.heap.size w w':=by
 have e1:=ga.2;refine (oC v1 a w h1.np ga.1 (by omega)).mono ?_;rintro e w' ⟨v,rfl,hv,hb⟩;exact ⟨v,rfl,FP.new hv,hb⟩
def jy (n:Nat) (tr:Tr) (A:Nat × List Nat):Tr:=if A.1<n then Cm.kq tr A.1 (Cm.ap A.2 A.1) A.2 else tr
def oT (F0:Nat→Prop) (w:World) (tb tf n:Nat) (tr:Tr) (Rb:Nat→Nat) (A:Nat × List Nat) (e:Ending) (w':World):Prop:=∃ F' V',e=.returned (.bool (decide (A.1<n)))∧KI F0 w F' w' (yE n Rb)∧bW F' tb tf n w' (jy n tr A) Rb V'
theorem oT.intro {w:World} {tr:Tr} {Rb:Nat→Nat} {A:Nat × List Nat} (F':Nat→Prop) (V':Nat→Nat→Value) (b:Bool) (h1:KI F0 w F' w' (yE n Rb)) (h2:bW F' tb tf n w' (jy n tr A) Rb V') (hb:decide (A.1<n)=b):oT F0 w tb tf n tr Rb A (.returned (.bool b)) w':=⟨F',V',by rw [hb],h1,h2⟩
theorem oU (aZ:1≤n) (bn:n≤64) {w:World} {tr:Tr} {Rb:Nat→Nat} {V:Nat→Nat→Value} (hT:bW F0 tb tf n w tr Rb V) (hr:Cm.Rp n 0 (Cm.cp n tr)) {x:List Nat} (hx:FP F0 w xv x) (gx:Cm.Gd n x) :
  Calls Tryz.prog 98 #[.slice (some ⟨tb,tf,none⟩) n tc,xv] w (oT F0 w tb tf n tr Rb (Cm.cS n (Cm.cp n tr) n x)):=by
 obtain ⟨YH,YI,YJ,rfl⟩:=hx.eC gx aZ;have K:=ι (KI.refl (M:=yE n Rb) hT.gB);have HT:=ι hT;have X:=ι hx;have HR:=ι hr;obtain ⟨A,hA⟩:∃ A,Hid (A=Cm.cS n (Cm.cp n tr) n x):=⟨_,ι rfl⟩;rw [← hA.out];have qt:=ι (show Cm.cS n (Cm.cp n tr) (n - 0) x=A from hA.out.symm);have GX:=ι gx;clear hT hx hr gx
 go_enter Tryz.func98,Tryz.ntmps98
 go_wp2
 go_loopw [1,5] (fun yv iv wr=>∃ (i:Nat) (y:List Nat) (F1:Nat→Prop),i≤n∧iv=.int .i64 i∧Hid (FP F1 wr yv y)∧Hid (bW F1 tb tf n wr tr Rb V)∧Hid (KI F0 w F1 wr (yE n Rb))∧Hid (Cm.Gd n y)∧Hid (Cm.Fx i y)∧Hid (Cm.cS n (Cm.cp n tr) (n - i) y=A)) (fun _ iv _=>n - (intOf iv).toNat)
 case atStart=>exact ⟨0,x,F0,Nat.zero_le _,rfl,X,HT,K,GX,ι (fun j h=>absurd h (Nat.not_lt_zero _)),qt⟩
 case round =>
  clear X HT K qt GX;obtain ⟨i,y,F,eE,rfl,X,HT,K,GY,FY,HS⟩:=hrel
  by_cases aB:i<n
  ·have uS:(i:Int)<(n:Int):=by omega
   obtain ⟨xb,xo,xc,rfl⟩:=X.out.eC GY.out aZ;have gZ:=Cm.eH GY.out aB;obtain ⟨q,hq⟩:∃ q:Nat,Hid (q=Cm.ap y i):=⟨_,ι rfl⟩;rw [← hq.out] at gZ;have CX:=ι (show CF F wr xb (xo+i) (.int .i64 ((q:Nat):Int)) by rw [hq.out]; exact X.out.ap GY.out aB);have bw:=ι aB;have CO:=ι (HT.out.out i aB);have CE:=ι (CL.mk (HT.out.cell aB gZ) (HT.out.lt aB))
   have e1:n - i=(n - i - 1)+1:=by omega
   by_cases lD:q=i
   ·have Ml:(q:Int)=(i:Int):=by omega
    have HY:=ι (show Cm.cS n (Cm.cp n tr) (n - (i+1)) y=A by
     rw [← HS.out,e1,Cm.gY (u:=Ma.aR n) (by rw [show n - (n - i - 1+1)=i by omega,← hq.out,lD]; exact Cm.cP),Cm.inv_one,Cm.mul_one GY.out,show n - i - 1=n - (i+1) by omega])
    have Jh:=ι (show Cm.Fx (i+1) y from fun j hj=>by
     by_cases e:j=i
     ·subst e; rw [← hq.out]; exact lD
     ·exact FY.out j (by omega))
    clear lD e1;go_upto_region 4 with fail
    refine b6<|i5 rfl<|i4 rfl<|i8 (ag bK _ _ rfl xb (xo) (n) xc (i) rfl rfl bw.out)<|i8 (d8 (.int .i64 ((q:Nat):Int)) ⟨xb,xo+i,none⟩ (af CX.out.cell)) ?_;go_frame
    refine i4 rfl ?_;go_frame;go_upto_region 6 with fail
    refine b6<|i4 rfl<|i4 rfl<|i8 (d9 (.bool true) .eql (h:=cJ _ d5))<|i7 rfl ?_;go_frame
    go_wp2
    go_roundw
    case rel=>exact ⟨i+1,y,_,bw.out,by go_num,X,HT,K,GY,Jh,HY⟩
    case measure=>simp [intOf]; have:=bw.out; omega
   ·have Ml:¬ (q:Int)=(i:Int):=by omega
    cases dx:tr i q with
    | none =>
     have p4:=HT.out.none_ i q aB gZ dx;rw [p4] at CE
     have HE:=ι (show A=(i,y) by
      rw [← HS.out,e1,Cm.jF]
      ·rw [show n - (n - i - 1+1)=i by omega]
      ·rw [show n - (n - i - 1+1)=i by omega,← hq.out,Cm.cA lD]; exact dx)
     clear p4 dx lD e1;go_upto_region 4 with fail
     refine b6<|i5 rfl<|i4 rfl<|i8 (ag bK _ _ rfl xb (xo) (n) xc (i) rfl rfl bw.out)<|i8 (d8 (.int .i64 ((q:Nat):Int)) ⟨xb,xo+i,none⟩ (af CX.out.cell)) ?_;go_frame
     refine i4 rfl ?_;go_frame;go_upto_region 6 with fail
     refine b6<|i4 rfl<|i4 rfl<|i8 (d9 (.bool false) .eql (h:=cJ _ d6))<|i7 rfl ?_;go_frame
     go_upto_region 7 with fail
     refine b6<|i5 rfl<|i4 rfl<|i8 (ag ft _ _ rfl tb (tf) (n) tc (i) rfl rfl bw.out)<|i8 (d8 (.slice (some ⟨(Rb i),0,none⟩) n n) ⟨tb,tf+i,none⟩ (Rg.ae _ _ Tryz.underlying22 CO.out.cell)) ?_;go_frame
     refine i4 rfl<|i8 (ag aE _ _ rfl (Rb i) (0) (n) n (q) rfl rfl gZ)<|i8 (d8 (.slice none 0 0) ⟨(Rb i),0+q,none⟩ (Rg.ae _ _ Tryz.underlying26 (by rw [Nat.zero_add]; exact CE.out.cell)))<|i8 (qm _ _ rfl rfl rfl)<|i7 rfl ?_;go_frame
     go_upto_region 8 with fail
     refine b6<|i5 rfl<|i4 rfl<|i8 (ag ft _ _ rfl tb (tf) (n) tc (i) rfl rfl bw.out)<|i8 (d8 (.slice (some ⟨(Rb i),0,none⟩) n n) ⟨tb,tf+i,none⟩ (Rg.ae _ _ Tryz.underlying22 CO.out.cell)) ?_;go_frame
     refine i4 rfl<|i5 rfl<|i8 (ag aE _ _ rfl (Rb i) (0) (n) n (q) rfl rfl gZ)<|Rg.aF none rfl rfl (Rg.az _ _ _ rfl _ rfl _ rfl (Rg.cn _ gW (by rw [Nat.zero_add]; exact CE.out.cell) (by rw [Nat.zero_add]; exact (HT.out.row i bw.out).frozen _))) ?_;go_frame
     obtain ⟨VH,fD⟩:=HT.out.put (p:=q) bw.out X.out;have tK:Rg.Kp (yE n Rb) wr (wr.setCell ⟨Rb i,q,none⟩ (.slice (some ⟨xb,xo,none⟩) n xc)):=Rg.Kp.aS ⟨i,bw.out,rfl⟩;simp only [Nat.zero_add];generalize wr.setCell ⟨Rb i,q,none⟩ (.slice (some ⟨xb,xo,none⟩) n xc)=Lo at *;have ir:=ι (show bW F tb tf n Lo (jy n tr A) Rb _ by unfold jy; rw [HE.out,if_pos bw.out,← hq.out]; exact VH);have K2:=ι (K.out.put fD tK);clear VH fD tK;go_wp2;go_ret;exact oT.intro _ _ true K2.out ir.out (by rw [HE.out]; exact decide_eq_true bw.out)
    | some u =>
     have hid:Cm.cp n tr i q=some u:=by rw [Cm.cA lD]; exact dx
     have gu:=HR.out.gd i q u (Nat.zero_le _) aB hid;have oL:=HT.out.some_ i q u aB gZ dx;obtain ⟨ub,uo,uc,oV⟩:=oL.eC gu aZ;rw [oV] at oL CE;have UP:=ι oL;have GU:=ι gu;have GI:=ι (Cm.aW gu)
     have HY:=ι (show Cm.cS n (Cm.cp n tr) (n - (i+1)) (Ma.aj y (Ma.aO u))=A by
      rw [← HS.out,e1,Cm.gY (u:=u) (by rw [show n - (n - i - 1+1)=i by omega,← hq.out]; exact hid),show n - i - 1=n - (i+1) by omega])
     obtain ⟨BZ,B6⟩:=Cm.rJ HR.out (Nat.zero_le _) aB GY.out FY.out (by rw [← hq.out]; exact hid);have Rc:=ι BZ;have Jh:=ι B6;clear hid gu oL oV dx BZ B6 lD e1;go_upto_region 4 with fail
     refine b6<|i5 rfl<|i4 rfl<|i8 (ag bK _ _ rfl xb (xo) (n) xc (i) rfl rfl bw.out)<|i8 (d8 (.int .i64 ((q:Nat):Int)) ⟨xb,xo+i,none⟩ (af CX.out.cell)) ?_;go_frame
     refine i4 rfl ?_;go_frame;go_upto_region 6 with fail
     refine b6<|i4 rfl<|i4 rfl<|i8 (d9 (.bool false) .eql (h:=cJ _ d6))<|i7 rfl ?_;go_frame
     go_upto_region 7 with fail
     refine b6<|i5 rfl<|i4 rfl<|i8 (ag ft _ _ rfl tb (tf) (n) tc (i) rfl rfl bw.out)<|i8 (d8 (.slice (some ⟨(Rb i),0,none⟩) n n) ⟨tb,tf+i,none⟩ (Rg.ae _ _ Tryz.underlying22 CO.out.cell)) ?_;go_frame
     refine i4 rfl<|i8 (ag aE _ _ rfl (Rb i) (0) (n) n (q) rfl rfl gZ)<|i8 (d8 (.slice (some ⟨ub,uo,none⟩) n uc) ⟨(Rb i),0+q,none⟩ (Rg.ae _ _ Tryz.underlying26 (by rw [Nat.zero_add]; exact CE.out.cell)))<|i8 (jJ _ _ rfl rfl rfl)<|i7 rfl ?_;go_frame
     go_upto_region 5 with fail
     refine b6<|i5 rfl<|i5 rfl<|i4 rfl<|i8 (ag ft _ _ rfl tb (tf) (n) tc (i) rfl rfl bw.out) ?_;go_frame
     refine i8 (d8 (.slice (some ⟨(Rb i),0,none⟩) n n) ⟨tb,tf+i,none⟩ (Rg.ae _ _ Tryz.underlying22 CO.out.cell))<|i4 rfl<|i8 (ag aE _ _ rfl (Rb i) (0) (n) n (q) rfl rfl gZ)<|i8 (d8 (.slice (some ⟨ub,uo,none⟩) n uc) ⟨(Rb i),0+q,none⟩ (Rg.ae _ _ Tryz.underlying26 (by rw [Nat.zero_add]; exact CE.out.cell))) ?_;go_frame
     refine d4 25 (aq 52 _ _ rfl rfl (E5 _ _)) ?_;refine (Pa UP.out GU.out bn).mono ?_;rintro e1 w1 ⟨iv,rfl,uU,hb⟩;refine ⟨_,rfl,?_⟩;go_frame;replace X:=ι (X.out.up hb);replace HT:=ι (HT.out.up hb);replace CX:=ι (CX.out.up hb);replace CO:=ι (CO.out.up hb);replace CE:=ι (CE.out.up hb);replace UP:=ι (UP.out.up hb);replace K:=ι (K.out.up hb);have IV:=ι uU;generalize cx F wr w1=F1 at *;clear hb;clear uU;refine d4 26 (aD 26 _ _ _ rfl rfl rfl (k8 _ _)) ?_;refine (pK X.out IV.out GY.out GI.out bn).mono ?_;rintro e1 w2 ⟨mv,rfl,dL,hb⟩;refine ⟨_,rfl,?_⟩;go_frame;replace X:=ι (X.out.up hb);replace HT:=ι (HT.out.up hb);replace CX:=ι (CX.out.up hb);replace CO:=ι (CO.out.up hb);replace CE:=ι (CE.out.up hb);replace UP:=ι (UP.out.up hb);replace IV:=ι (IV.out.up hb);replace K:=ι (K.out.up hb);have MV:=ι dL;generalize cx F1 w1 w2=F2 at *
     clear hb;refine i3 (mv) rfl ?_;go_frame;clear dL;go_wp2
     go_roundw
     case rel=>exact ⟨i+1,_,_,bw.out,by go_num,MV,HT,K,Rc,Jh,HY⟩
     case measure=>simp [intOf]; have:=bw.out; omega
  ·obtain rfl:i=n:=by omega
   have uS:¬ (i:Int)<(i:Int):=by omega
   have HE:=ι (show A=(i,y) by rw [← HS.out,Nat.sub_self]; rfl);have ir:=ι (show bW F tb tf i wr (jy i tr A) Rb V by unfold jy; rw [HE.out,if_neg (Nat.lt_irrefl _)]; exact HT.out);go_wp2;go_ret;exact oT.intro _ _ false K.out ir.out (by rw [HE.out]; exact decide_eq_false (Nat.lt_irrefl _))

theorem E6:(Tryz.prog.info? 26).map (fun i=>(i.zero,i.size,i.bytes))=some (some (.slice none 0 0),1,24):=by kernel_rfl
theorem Mm (n:Nat) (hn:n≤1000000) (w:World):(Instr.makeSlice 22 (.int .i64 (n:Int)) (.int .i64 (n:Int))).run Tryz.prog w=.ok (.slice (some ⟨w.heap.size,0,none⟩) n n) (w.alloc (.cells (madeCells #[.slice none 0 0] n) 26)) :=
 run_make_row' 22 26 (.slice none 0 0) 24 Tryz.underlying22 E6 rfl .i64 .i64 n (by omega) (by omega) w
theorem Aw (X:World) (u:Value) (hs:∃ a n c,u=.slice a n c):(Instr.buildSlice 141 1 #[(0,u)]).run Tryz.prog X=.ok (.slice (some ⟨X.heap.size,0,none⟩) 1 1) (X.alloc (.cells #[u] 22)):=by
 obtain ⟨i0,hi,dc,bM,eY⟩:=info_parts gO;obtain ⟨a,n,c,rfl⟩:=hs;refine run_buildSlice X 141 22 1 _ _ i0 _ Tryz.underlying141 hi dc (by rw [bM]; decide) (by rw [bM]; decide) ?_;generalize (fun x=>((Value.slice none 0 0).cells)[x % (Value.slice none 0 0).cells.size]!)=f;rw [bM];have h1:Array.range (1*1)=#[0]:=rfl;simp [Instr.fill,Value.cells,h1]
structure Ax (B n:Nat) (W:World) (v:Value) (k:Nat) (Rb:Nat→Nat):Prop where
 size:B≤W.heap.size
 own:W.ownsRow B 22 1 v k ((List.range k).map (fun j=>.slice (some ⟨Rb j,0,none⟩) n n))
 row:∀ j,j<k→W.rowIs (Rb j) 26 n (fun _=>.slice none 0 0)∧B≤Rb j∧v.ownBlock≠some (Rb j)
 inj:∀ i j,i<k→j<k→Rb i=Rb j→i=j
theorem Ax.start (n:Nat) (w:World):Ax w.heap.size n w (.slice none 0 0) 0 (fun _=>0) :=
 ⟨Nat.le_refl _,World.ownsRow_nil _ _ _ _,fun _ h=>absurd h (Nat.not_lt_zero _),fun _ _ h=>absurd h (Nat.not_lt_zero _)⟩
theorem Ax.push {v:Value} {Rb:Nat→Nat} (h:Ax B n W v k Rb) (hk:k<1000000) (ty:TypeId) :
  ∃ a c X,(Builtin.append_ #[141,141] ty #[v,.slice (some ⟨W.heap.size+1,0,none⟩) 1 1]).run Tryz.prog ((W.alloc (.cells (madeCells #[.slice none 0 0] n) 26)).alloc (.cells #[.slice (some ⟨W.heap.size,0,none⟩) n n] 22))=.ok (.slice a (k+1) c) X ∧
   Ax B n X (.slice a (k+1) c) (k+1) (fun j=>if j=k then W.heap.size else Rb j)∧(∀ {B':Nat} {W0:World},B'≤B→Below B' W0 W→Below B' W0 X):=by
 have cV:Below W.heap.size W (W.alloc (.cells (madeCells #[.slice none 0 0] n) 26)):=(Below.refl _ _).alloc (Nat.le_refl _) _
 have s7:(W.alloc (.cells (madeCells #[.slice none 0 0] n) 26)).heap.size=W.heap.size+1:=by simp
 have bA:=World.rowIs_made W (.slice none 0 0) n 26;generalize (W.alloc (.cells (madeCells #[.slice none 0 0] n) 26))=W1 at *;have df:Below W1.heap.size W1 (W1.alloc (.cells #[.slice (some ⟨W.heap.size,0,none⟩) n n] 22)):=(Below.refl _ _).alloc (Nat.le_refl _) _
 have ky:(W1.alloc (.cells #[.slice (some ⟨W.heap.size,0,none⟩) n n] 22)).heap.size=W1.heap.size+1:=by simp
 have hc:(W1.alloc (.cells #[.slice (some ⟨W.heap.size,0,none⟩) n n] 22)).cell? ⟨W.heap.size+1,0,none⟩=some (.slice (some ⟨W.heap.size,0,none⟩) n n):=by
  rw [← s7,Rg.aM]; rfl
 generalize (W1.alloc (.cells #[.slice (some ⟨W.heap.size,0,none⟩) n n] 22))=W2 at *;have VI:Rg.Kp (fun _=>False) W W2:=Rg.Kp.trans (Rg.Kp.aK cV) (Rg.Kp.aK (M:=fun _=>False) df) (fun _ _ e=>e);have gG:=Rg.aQ (Rg.aQ h.own cV) df;obtain ⟨v',X,r1,r2,r3,r4,a,c,rfl⟩:=cR (P:=Tryz.prog) ft ty gG (by have:=h.size; omega) (W.heap.size+1) 1 hc rfl hk;have jH:Rg.Kp (fun z=>v.ownBlock=some z) W2 X:=Rg.Kp.cH r3 fun _ e=>e;have E7:Rg.Kp (fun z=>v.ownBlock=some z) W X:=Rg.Kp.trans (M:=fun z=>v.ownBlock=some z) (VI.fN fun _=>False.elim) jH (fun _ _ e=>e);have aJ:=fun z e=>(h.own.lt z e)
 have lC:∀ z,z<W2.heap.size→v.ownBlock≠some z→(Value.slice a (k+1) c).ownBlock≠some z:=fun z hz h1 e=>by
  rcases r4 with r4 | r4
  ·rw [r4] at e; exact h1 e
  ·rw [r4] at e; injection e with e; omega
 refine ⟨a,c,X,r1,⟨by have:=h.size; have:=E7.size; omega,?_,fun j hj=>?_,fun i j hi hj e=>?_⟩,fun {B' W0} qs dG=>?_⟩
 ·have e:(List.range (k+1)).map (fun j=>Value.slice (some ⟨if j=k then W.heap.size else Rb j,0,none⟩) n n)=(List.range k).map (fun j=>Value.slice (some ⟨Rb j,0,none⟩) n n)++[.slice (some ⟨W.heap.size,0,none⟩) n n]:=by
   have e1:(List.range k).map (fun j=>Value.slice (some ⟨if j=k then W.heap.size else Rb j,0,none⟩) n n)=(List.range k).map (fun j=>Value.slice (some ⟨Rb j,0,none⟩) n n) :=
    List.map_congr_left fun j hj=>by rw [if_neg (by have:=List.mem_range.1 hj; omega)]
   rw [List.range_succ,List.map_append,e1,List.map_singleton,if_pos rfl]
  rw [e]; exact r2
 ·by_cases e:j=k
  ·simp only [if_pos e]
   exact ⟨eM (eM (M:=fun _=>False) bA (Rg.Kp.aK df) id) jH (fun e2=>by have:=(aJ _ e2).2; omega),h.size,lC _ (by omega) (fun e2=>by have:=(aJ _ e2).2; omega)⟩
  ·simp only [if_neg e]
   obtain ⟨g1,g2,g3⟩:=h.row j (by omega);have:=kJ g1;exact ⟨eM g1 E7 g3,g2,lC _ (by omega) g3⟩
 ·by_cases e1:i=k
  ·by_cases e2:j=k
   ·omega
   ·simp only [if_pos e1,if_neg e2] at e
    have:=kJ (h.row j (by omega)).1;omega
  ·by_cases e2:j=k
   ·simp only [if_neg e1,if_pos e2] at e
    have:=kJ (h.row i (by omega)).1;omega
   ·simp only [if_neg e1,if_neg e2] at e
    exact h.inj i j (by omega) (by omega) e
 ·refine dG.trans ⟨E7.os,E7.tape,E7.output,E7.size,fun z hz=>E7.block z ?_ fun e=>?_⟩
  ·have:=h.size; omega
  ·have:=(aJ z e).1; omega
theorem Ax.done {w:World} {v:Value} {Rb:Nat→Nat} (h:Ax w.heap.size n W v n Rb) (hn:0<n) (hb:Below w.heap.size w W):∃ tb c F,v=.slice (some ⟨tb,0,none⟩) n c∧KG (fun k=>k<w.heap.size) w F W∧bW F tb 0 n W (fun _ _=>none) Rb (fun _ _=>.slice none 0 0):=by
 obtain ⟨g,c,u,rfl,_,_,hg⟩:=iE h.own hn;have R_:w.heap.size≤g:=(h.own.lt g rfl).1
 refine ⟨g,c,fun k=>k<w.heap.size∨k=g,rfl,⟨fun k hk=>.inl hk,fun k hk=>by rcases hk with hk | rfl; exact Nat.lt_of_lt_of_le hk hb.size; exact hg,KF.aK hb⟩,⟨fun k hk=>by rcases hk with hk | rfl; exact Nat.lt_of_lt_of_le hk hb.size; exact hg,fun i hi=>?_,fun i hi e=>?_,h.inj,fun i hi=>(h.row i hi).1,fun i p u _ _ e=>(by cases e),fun _ _ _ _ _=>rfl⟩⟩
 ·obtain ⟨g',c',u',e1,e2,e3,_⟩:=iE h.own hi
  simp at e1;obtain ⟨rfl,_⟩:=e1;refine ⟨?_,.inr rfl,hg⟩;rw [e2,← e3];simp [hi]
 ·obtain ⟨_,g2,g3⟩:=h.row i hi
  rcases e with e | e
  ·omega
  ·exact g3 (by rw [e]; rfl)
def Il (n:Nat) (w:World) (e:Ending) (w':World):Prop:=∃ tb c F Rb,e=.returned (.slice (some ⟨tb,0,none⟩) n c)∧KG (fun k=>k<w.heap.size) w F w'∧bW F tb 0 n w' (fun _ _=>none) Rb (fun _ _=>.slice none 0 0)
theorem E8 (aZ:1≤n) (bn:n≤64) (w:World) :
  Calls Tryz.prog 97 #[.int .i64 ((n:Nat):Int)] w (Il n w):=by
 have HE:=ι (Ax.start n w);have K:=ι (Below.refl w.heap.size w)
 go_enter Tryz.func97,Tryz.ntmps97
 go_wp2
 go_loopw [3,4] (fun tv iv wr=>∃ (k:Nat) (Rb:Nat→Nat),iv=.int .i64 k∧k≤n∧(∃ a c,tv=.slice a k c)∧Hid (Ax w.heap.size n wr tv k Rb)∧Hid (Below w.heap.size w wr)) (fun _ iv _=>n - (intOf iv).toNat)
 case atStart=>exact ⟨0,_,rfl,Nat.zero_le _,⟨_,_,rfl⟩,HE,K⟩
 case round =>
  clear HE K;obtain ⟨k,Rb,rfl,hk,⟨ta,tc,rfl⟩,HE,K⟩:=hrel
  by_cases bP:k<n
  ·have iH:(k:Int)<(n:Int):=by omega
   have bd:=ι bP;go_upto_region 5 with fail
   refine b6<|i5 rfl<|i4 rfl<|i8 (mK _ _ _ rfl _ _ rfl rfl (Mm n (by omega) wr))<|i8 (Rg.aC _ _ _ rfl (.slice (some ⟨wr.heap.size,0,none⟩) n n) rfl (Aw _ _ ⟨_,_,_,rfl⟩)) ?_;go_frame
   obtain ⟨a9,c9,X9,r1,r2,r3⟩:=HE.out.push (by have:=bd.out; omega) 141
   have dn:(wr.alloc (.cells (madeCells #[.slice none 0 0] n) 26)).heap.size=wr.heap.size+1:=by simp
   rw [← dn] at r1
   refine i8 (Rg.aP _ _ _ rfl rfl rfl r1)<|i5 rfl ?_;go_frame
   have yF:=ι r2;have K2:=ι (r3 (Nat.le_refl _) K.out);clear r1 r2 r3 dn;go_wp2
   go_roundw
   case rel=>exact ⟨k+1,_,by go_num,bd.out,⟨_,_,rfl⟩,yF,K2⟩
   case measure=>simp [intOf]; have:=bd.out; omega
  ·obtain rfl:k=n:=by omega
   have iH:¬ (k:Int)<(k:Int):=by omega
   obtain ⟨tb,c,F,he,h1,h2⟩:=HE.out.done aZ K.out;have H1:=ι h1;have H2:=ι h2
   injection he with e1 _ e2
   subst e1 e2;clear h1 h2;go_wp2;go_ret;exact (show Il _ _ _ _ from ⟨_,_,_,_,rfl,H1.out,H2.out⟩)
end Go.Proofs.YtbngdgfmlmkgiaaGreat

namespace Go.Proofs.YtbngdgfmlmkgiaaGreat
open Go.RowKit
open Go.Proofs
open Go.Proofs.Cm (Tr)
attribute [local irreducible] Go.Calls Go.wpList
theorem uB {o:Oper} {a:Act} {w:World} {ad:Addr} {c:Nat} (x y:Operand) (ho:o.op=.binOp .neq 26 x y 26) (hx:a.eval x=.slice (some ad) n c) (hy:a.eval y=.slice none 0 0):(execOp a.eval o).run Tryz.prog w=.ok (.value (.bool true)) w:=by
 have h1:(binOp .neq 26 (.slice (some ad) n c) (.slice none 0 0)).run Tryz.prog w=.ok (.bool true) w:=by kernel_rfl
 have hg:(eqGuard .neq 26 x y (.slice (some ad) n c) (.slice none 0 0)).run Tryz.prog w=.ok () w:=by
  simp [eqGuard]
 unfold execOp;simp only [ho,hx,hy,Sem.run_bind,Sem.run_pure,hg,h1,Result.andThen_ok]
theorem uC {o:Oper} {a:Act} {w:World} (x y:Operand) (ho:o.op=.binOp .neq 26 x y 26) (hx:a.eval x=.slice none 0 0) (hy:a.eval y=.slice none 0 0):(execOp a.eval o).run Tryz.prog w=.ok (.value (.bool false)) w:=by
 have h1:(binOp .neq 26 (.slice none 0 0) (.slice none 0 0)).run Tryz.prog w=.ok (.bool false) w:=by kernel_rfl
 have hg:(eqGuard .neq 26 x y (.slice none 0 0) (.slice none 0 0)).run Tryz.prog w=.ok () w:=by
  simp [eqGuard]
 unfold execOp;simp only [ho,hx,hy,Sem.run_bind,Sem.run_pure,hg,h1,Result.andThen_ok]
def iQ (n:Nat) (tr:Tr) (i p:Nat):List (List Nat):=(List.range i).flatMap (fun j=>(List.range n).filterMap (tr j))++(List.range p).filterMap (tr i)
def cU (n:Nat) (tr:Tr):List (List Nat):=(List.range n).flatMap (fun j=>(List.range n).filterMap (tr j))
theorem E9 {tr:Tr} {i p:Nat} (h:tr i p=none):iQ n tr i (p+1)=iQ n tr i p:=by
 unfold iQ;rw [List.range_succ,List.filterMap_append];simp [h]
theorem E_ {tr:Tr} {i p:Nat} {u:List Nat} (h:tr i p=some u):iQ n tr i (p+1)=iQ n tr i p++[u]:=by
 unfold iQ;rw [List.range_succ,List.filterMap_append,List.append_assoc];simp [h]
theorem zq (n:Nat) (tr:Tr) (i:Nat):iQ n tr i n=iQ n tr (i+1) 0:=by
 unfold iQ;rw [List.range_succ,List.flatMap_append];simp
theorem pL (n:Nat) (tr:Tr):iQ n tr n 0=cU n tr:=by
 unfold iQ cU; simp
theorem k9 {α β:Type} (f:α→Option β):∀ l:List α,(l.filterMap f).length≤l.length
 | []=>Nat.le_refl _
 | a :: l=>by
  have:=k9 f l
  cases h:f a with
  | none=>rw [List.filterMap_cons_none h]; simp; omega
  | some b=>rw [List.filterMap_cons_some h]; simp; omega
theorem mQ (n:Nat) (tr:Tr):∀ i p,(iQ n tr i p).length≤i*n+p
 | 0,p=>by
  have:=k9 (tr 0) (List.range p);unfold iQ; simp at this ⊢; exact this
 | i+1,p=>by
  have h1:=mQ n tr i n;rw [zq] at h1;have h2:=k9 (tr (i+1)) (List.range p);rw [List.length_range] at h2
  have h3:(iQ n tr (i+1) p).length=(iQ n tr (i+1) 0).length+((List.range p).filterMap (tr (i+1))).length:=by
   unfold iQ; simp
  have h4:(i+1)*n=i*n+n:=Nat.succ_mul i n;omega
structure dw (F:Nat→Prop) (B:Nat) (W:World) (v:Value) (l:List (List Nat)):Prop where
 size:B≤W.heap.size
 own:∃ us,W.ownsRow B 26 1 v l.length us∧Rg.br F W us (l.map Ma.ah)
theorem dw.nil (F:Nat→Prop) {B:Nat} {W:World} (h:B≤W.heap.size):dw F B W (.slice none 0 0) []:=⟨h,[],World.ownsRow_nil _ _ _ _,Rg.br.nil _ _⟩
theorem dw.below {v:Value} {l:List (List Nat)} (h:dw F B W v l) (hb:Below W.heap.size W W'):dw F B W' v l:=by
 obtain ⟨us,h1,h2⟩:=h.own;exact ⟨Nat.le_trans h.size hb.size,us,Rg.aQ h1 hb,h2.kp (M:=fun _=>False) (Rg.Kp.aK hb) (fun _ _=>id)⟩
theorem dw.shape {v:Value} {l:List (List Nat)} (h:dw F B W v l):∃ a c,v=.slice a l.length c:=by
 obtain ⟨us,h1,_⟩:=h.own;exact Rg.bY h1
theorem dw.Mn {v:Value} {l:List (List Nat)} (h:dw F B W v l) (hF:∀ k,F k→k<B) {u:Value} {x:List Nat} (hu:FP F W u x) (hs:∃ a m c,u=.slice a m c) (hn:l.length<1000000) (ty:TypeId) :
  ∃ a c X,(Builtin.append_ #[22,22] ty #[v,.slice (some ⟨W.heap.size,0,none⟩) 1 1]).run Tryz.prog (W.alloc (.cells #[u] 26))=.ok (.slice a (l.length+1) c) X∧dw F B X (.slice a (l.length+1) c) (l++[x])∧(∀ {B':Nat} {W0:World},B'≤B→Below B' W0 W→Below B' W0 X)∧Rg.Kp (fun k=>v.ownBlock=some k) W X:=by
 obtain ⟨us,h1,h2⟩:=h.own;obtain ⟨a0,m0,c0,rfl⟩:=hs;have hb:Below W.heap.size W (W.alloc (.cells #[.slice a0 m0 c0] 26)):=(Below.refl _ _).alloc (Nat.le_refl _) _;obtain ⟨v',X,r1,r2,r3,r4,a,c,rfl⟩:=cR (P:=Tryz.prog) aE ty (Rg.aQ h1 hb) (Nat.le_trans h.size hb.size) W.heap.size 1 (u:=.slice a0 m0 c0) (by rw [Rg.aM]; rfl) rfl hn;have hk:Rg.Kp (fun k=>v.ownBlock=some k) W X:=Rg.Kp.trans (M:=fun k=>v.ownBlock=some k) ((Rg.Kp.aK hb).fN fun _=>False.elim) (Rg.Kp.cH r3 fun _ e=>e) (fun _ _ e=>e)
 have hg:∀ k,F k→¬ v.ownBlock=some k:=fun k g e=>by have:=hF k g; have:=(h1.lt k e).1; omega
 refine ⟨a,c,X,r1,⟨Nat.le_trans h.size hk.size,us++[.slice a0 m0 c0],by rw [List.length_append]; exact r2,by rw [List.map_append]; exact br.snoc (h2.kp hk hg) (Rg.FI.kp hu hk hg)⟩,fun {B' W0} qs dG=>?_,hk⟩;refine (dG.trans ⟨hk.os,hk.tape,hk.output,hk.size,fun k K8=>hk.block k ?_ fun e=>?_⟩)
 ·have:=h.size; omega
 ·have:=(h1.lt k e).1; omega
theorem dw.push {v:Value} {l:List (List Nat)} (h:dw F B W v l) (hF:∀ k,F k→k<B) {u:Value} {x:List Nat} (hu:FP F W u x) (hs:∃ a m c,u=.slice a m c) (hn:l.length<1000000) (ty:TypeId) :
  ∃ a c X,(Builtin.append_ #[22,22] ty #[v,.slice (some ⟨W.heap.size,0,none⟩) 1 1]).run Tryz.prog (W.alloc (.cells #[u] 26))=.ok (.slice a (l.length+1) c) X∧dw F B X (.slice a (l.length+1) c) (l++[x])∧(∀ {B':Nat} {W0:World},B'≤B→Below B' W0 W→Below B' W0 X):=by
 obtain ⟨a,c,X,r1,r2,r3,_⟩:=h.Mn hF hu hs hn ty;exact ⟨a,c,X,r1,r2,r3⟩
def Cx (F:Nat→Prop) (B:Nat) (w:World) (l:List (List Nat)) (e:Ending) (w':World):Prop:=∃ v,e=.returned v∧dw F B w' v l∧Below B w w'
theorem eS (aZ:1≤n) (bn:n≤64) {w:World} {tr:Tr} {Rb:Nat→Nat} {V:Nat→Nat→Value} (hT:bW F tb tf n w tr Rb V) (cD:∀ i p u,tr i p=some u→Cm.Gd n u) :
  Calls Tryz.prog 120 #[.slice (some ⟨tb,tf,none⟩) n tc] w (Cx F w.heap.size w (cU n tr)):=by
 have HT:=ι hT;have HG:=ι cD;have K:=ι (Below.refl w.heap.size w);have RO:=ι (show dw F w.heap.size w (.slice none 0 0) (iQ n tr 0 0) from dw.nil F (Nat.le_refl _));clear hT cD
 go_enter Tryz.func120,Tryz.ntmps120
 go_wp2
 go_loopw [3,4] (fun tv iv wr=>∃ i:Nat,iv=.int .i64 i∧i≤n∧Hid (dw F w.heap.size wr tv (iQ n tr i 0))∧Hid (Below w.heap.size w wr)) (fun _ iv _=>n - (intOf iv).toNat)
 case atStart=>exact ⟨0,rfl,Nat.zero_le _,RO,K⟩
 case round =>
  clear RO K;obtain ⟨i,rfl,hi,RO,K⟩:=hrel
  by_cases aB:i<n
  ·have uS:(i:Int)<(n:Int):=by omega
   have bw:=ι aB;have CO:=ι (HT.out.out i aB);go_wp2
   go_loopw [3,5] (fun tv pv wr=>∃ q:Nat,pv=.int .i64 q∧q≤n∧Hid (dw F w.heap.size wr tv (iQ n tr i q))∧Hid (Below w.heap.size w wr)) (fun _ pv _=>n - (intOf pv).toNat)
   case atStart=>exact ⟨0,rfl,Nat.zero_le _,RO,K⟩
   case round =>
    clear RO K;obtain ⟨q,rfl,hq,RO,K⟩:=hrel
    by_cases gZ:q<n
    ·have Ml:(q:Int)<(n:Int):=by omega
     have j2:=ι gZ;have CE:=ι (CL.mk (show w.cell? ⟨Rb i,0+q,none⟩=some (V i q) by rw [Nat.zero_add]; exact HT.out.cell aB gZ) (HT.out.lt aB))
     cases dx:tr i q with
     | none =>
      have p4:=HT.out.none_ i q aB gZ dx;rw [p4] at CE;have HE:=ι (E9 (n:=n) dx);clear p4 dx;go_upto_region 8 with fail
      refine b6<|i5 rfl<|i4 rfl<|i8 (ag ft _ _ rfl tb (tf) (n) tc (i) rfl rfl bw.out)<|i8 (d8 (.slice (some ⟨(Rb i),0,none⟩) n n) ⟨tb,tf+i,none⟩ (Rg.ae _ _ Tryz.underlying22 ((Below.cell (p:=⟨tb,tf+i,none⟩) K.out CO.out.lt).trans CO.out.cell))) ?_;go_frame
      refine i4 rfl<|i8 (ag aE _ _ rfl (Rb i) (0) (n) n (q) rfl rfl j2.out)<|i8 (d8 (.slice none 0 0) ⟨(Rb i),0+q,none⟩ (Rg.ae _ _ Tryz.underlying26 ((Below.cell (p:=⟨(Rb i),0+q,none⟩) K.out CE.out.lt).trans CE.out.cell)))<|i8 (uC _ _ rfl rfl rfl) ?_;go_frame
      go_wp2
      go_roundw
      case rel=>exact ⟨q+1,by go_num,j2.out,by rw [HE.out]; exact RO,K⟩
      case measure=>simp [intOf]; have:=j2.out; omega
     | some u =>
      have gu:=HG.out i q u dx;have oL:=HT.out.some_ i q u aB gZ dx;obtain ⟨ub,uo,uc,oV⟩:=oL.eC gu aZ;rw [oV] at oL CE;have UP:=ι oL;have HE:=ι (E_ (n:=n) dx)
      have Za:=ι (show (iQ n tr i q).length<1000000 by
       have h1:=mQ n tr i q;have h2:i*n≤64*64:=Nat.mul_le_mul (by omega) bn
       omega)
      obtain ⟨ta,Pb,cK⟩:=RO.out.shape;subst cK;clear gu oL oV dx;go_upto_region 8 with fail
      refine b6<|i5 rfl<|i4 rfl<|i8 (ag ft _ _ rfl tb (tf) (n) tc (i) rfl rfl bw.out)<|i8 (d8 (.slice (some ⟨(Rb i),0,none⟩) n n) ⟨tb,tf+i,none⟩ (Rg.ae _ _ Tryz.underlying22 ((Below.cell (p:=⟨tb,tf+i,none⟩) K.out CO.out.lt).trans CO.out.cell))) ?_;go_frame
      refine i4 rfl<|i8 (ag aE _ _ rfl (Rb i) (0) (n) n (q) rfl rfl j2.out)<|i8 (d8 (.slice (some ⟨ub,uo,none⟩) n uc) ⟨(Rb i),0+q,none⟩ (Rg.ae _ _ Tryz.underlying26 ((Below.cell (p:=⟨(Rb i),0+q,none⟩) K.out CE.out.lt).trans CE.out.cell)))<|i8 (uB _ _ rfl rfl rfl) ?_;go_frame
      go_upto_region 9 with fail
      refine b6<|i5 rfl<|i5 rfl<|i4 rfl<|i8 (ag ft _ _ rfl tb (tf) (n) tc (i) rfl rfl bw.out) ?_;go_frame
      refine i8 (d8 (.slice (some ⟨(Rb i),0,none⟩) n n) ⟨tb,tf+i,none⟩ (Rg.ae _ _ Tryz.underlying22 ((Below.cell (p:=⟨tb,tf+i,none⟩) K.out CO.out.lt).trans CO.out.cell)))<|i4 rfl<|i8 (ag aE _ _ rfl (Rb i) (0) (n) n (q) rfl rfl j2.out)<|i8 (d8 (.slice (some ⟨ub,uo,none⟩) n uc) ⟨(Rb i),0+q,none⟩ (Rg.ae _ _ Tryz.underlying26 ((Below.cell (p:=⟨(Rb i),0+q,none⟩) K.out CE.out.lt).trans CE.out.cell)))<|i8 (Rg.aC _ _ _ rfl (.slice (some ⟨ub,uo,none⟩) n uc) rfl (dI wr _ ⟨_,_,_,rfl⟩)) ?_;go_frame
      obtain ⟨a9,c9,X9,r1,r2,r3⟩:=RO.out.push HT.out.gB (UP.out.below K.out) ⟨_,_,_,rfl⟩ Za.out 22
      refine i8 (Rg.aP _ _ _ rfl rfl rfl r1)<|i5 rfl ?_;go_frame
      have qu:=ι r2;have K2:=ι (r3 (Nat.le_refl _) K.out);clear r1 r2 r3;go_wp2
      go_roundw
      case rel=>exact ⟨q+1,by go_num,j2.out,by rw [HE.out]; exact qu,K2⟩
      case measure=>simp [intOf]; have:=j2.out; omega
    ·obtain rfl:q=n:=by omega
     have Ml:¬ (q:Int)<(q:Int):=by omega
     have qu:=ι (by have:=RO.out; rwa [zq] at this);go_wp2
     go_roundw
     case rel=>exact ⟨i+1,by go_num,bw.out,qu,K⟩
     case measure=>simp [intOf]; have:=bw.out; omega
  ·obtain rfl:i=n:=by omega
   have uS:¬ (i:Int)<(i:Int):=by omega
   have qu:=ι (by have:=RO.out; rwa [pL] at this);go_wp2;go_ret;exact (show Cx _ _ _ _ _ _ from ⟨_,rfl,qu.out,K.out⟩)
end Go.Proofs.YtbngdgfmlmkgiaaGreat

namespace Go.Proofs.YtbngdgfmlmkgiaaGreat
open Go.Proofs
open Go.Proofs.Cm (Tr cE Gr Gd Sd cp cS)
theorem fA {α:Type} [DecidableEq α]:∀ {l m:List α},l.Nodup→(∀ x∈l,x∈m)→l.length≤m.length
 | [],_,_,_=>Nat.zero_le _
 | a :: l,m,nd,h=>by
  have ha:=h a (List.mem_cons_self ..);have h1:=fA (l:=l) (m:=m.erase a) (List.nodup_cons.1 nd).2 (fun x hx=>(List.mem_erase_of_ne (fun e:x=a=>(List.nodup_cons.1 nd).1 (by rw [← e]; exact hx))).2 (h x (List.mem_cons_of_mem _ hx)));rw [List.length_erase_of_mem ha] at h1;have h2:=List.length_pos_of_mem ha;simp only [List.length_cons]; omega
theorem en {tr:Tr} {x:List Nat}:x∈cU n tr↔∃ i p,i<n∧p<n∧tr i p=some x:=by
 unfold cU;simp only [List.mem_flatMap,List.mem_range,List.mem_filterMap];exact ⟨fun ⟨i,hi,p,hp,e⟩=>⟨i,p,hi,hp,e⟩,fun ⟨i,p,hi,hp,e⟩=>⟨i,hi,p,hp,e⟩⟩
theorem wP {gs:List Nat→Prop} {tr:Tr} (h:cE n gs tr) {i p q:Nat} {u:List Nat} (h1:tr i p=some u) (h2:tr j q=some u):i=j∧p=q:=by
 have key:∀ {i p j q:Nat},tr i p=some u→tr j q=some u→¬ i<j:=fun {i p j q} h1 h2 aJ=>by
  have hne:p≠i:=fun e=>by subst e; rw [h.diag] at h1; cases h1
  have Mo:q≠j:=fun e=>by subst e; rw [h.diag] at h2; cases h2
  have a1:=h.rp.at_ i p u (Nat.zero_le _) (h.lt i p u h1).1 (by rw [Cm.cA hne]; exact h1);have a2:=h.rp.fx j q u (Nat.zero_le _) (h.lt j q u h2).1 (by rw [Cm.cA Mo]; exact h2) i aJ;exact hne (a1.symm.trans a2)
 have e:i=j:=by
  rcases Nat.lt_trichotomy i j with h3 | h3 | h3
  ·exact absurd h3 (key h1 h2)
  ·exact h3
  ·exact absurd h3 (key h2 h1)
 subst e
 have hne:p≠i:=fun e=>by subst e; rw [h.diag] at h1; cases h1
 have Mo:q≠i:=fun e=>by subst e; rw [h.diag] at h2; cases h2
 have a1:=h.rp.at_ i p u (Nat.zero_le _) (h.lt i p u h1).1 (by rw [Cm.cA hne]; exact h1);have a2:=h.rp.at_ i q u (Nat.zero_le _) (h.lt i q u h2).1 (by rw [Cm.cA Mo]; exact h2);exact ⟨rfl,a1.symm.trans a2⟩
theorem oW {gs:List Nat→Prop} {tr:Tr} (h:cE n gs tr):(cU n tr).Nodup:=by
 unfold cU List.Nodup;rw [List.pairwise_flatMap];refine ⟨fun i _=>?_,?_⟩
 ·rw [List.pairwise_filterMap]
  refine List.Pairwise.imp (fun {a b} gJ x hx y hy e=>?_) (List.nodup_range (n:=n));subst e;exact gJ (wP h hx hy).2
 ·refine List.Pairwise.imp (fun {a b} gJ x hx y hy e=>?_) (List.nodup_range (n:=n))
  subst e;rw [List.mem_filterMap] at hx hy;obtain ⟨p,_,hp⟩:=hx;obtain ⟨q,_,hq⟩:=hy;exact gJ (wP h hp hq).1
theorem g_ {gs:List Nat→Prop} {tr:Tr} (h:cE n gs tr) {i p:Nat} {u:List Nat} (h1:tr i p=some u):Gd n u:=by
 have hne:p≠i:=fun e=>by subst e; rw [h.diag] at h1; cases h1
 exact h.rp.gd i p u (Nat.zero_le _) (h.lt i p u h1).1 (by rw [Cm.cA hne]; exact h1)
theorem Im {gs:List Nat→Prop} {tr:Tr} (h:cE n gs tr) {i p:Nat} {u:List Nat} (h1:cp n tr i p=some u):Gr n gs u:=by
 by_cases e:p=i
 ·subst e; rw [Cm.cP] at h1; injection h1 with h1; rw [← h1]; exact .one
 ·rw [Cm.cA e] at h1; exact h.mem i p u h1
theorem oX {gs:List Nat→Prop} (hg:∀ s,gs s→Gd n s) {tr:Tr} (h:cE n gs tr) {x:List Nat} (hx:Gr n gs x) :
  cE n gs (jy n tr (cS n (cp n tr) n x))∧(∀ i p u,cp n tr i p=some u→cp n (jy n tr (cS n (cp n tr) n x)) i p=some u)∧Sd n (cp n (jy n tr (cS n (cp n tr) n x))) n x ∧
   ((cU n (jy n tr (cS n (cp n tr) n x))).length≤(cU n tr).length→jy n tr (cS n (cp n tr) n x)=tr):=by
 have gx:=(Gr.fW hg).gd x hx;obtain ⟨a1,_,a3,a4,a5⟩:=Cm.mE h.rp (Nat.le_refl n) (by omega) gx (fun j hj=>absurd hj (by omega));have a6:=Cm.vX (tr:=cp n tr) (Gr.fW hg) (d:=n) (x:=x) (Nat.le_refl n) (fun i p u _ _ e=>Im h e) hx;have a7:=fun tr' (hm:∀ i p u,cp n tr i p=some u→cp n tr' i p=some u) hs=>Cm.pI (n:=n) (tr:=cp n tr) (tr':=cp n tr') (d:=n) (x:=x) (Nat.le_refl n) (fun i p u _=>hm i p u) hs;generalize cS n (cp n tr) n x=A at *;obtain ⟨i,y⟩:=A;simp only at a1 a3 a4 a5 a6 a7;unfold jy
 by_cases hi:i<n
 ·simp only [if_pos hi]
  obtain ⟨b1,b2⟩:=h.put hi a3 a4 a6 (a5 hi)
  have hne:Cm.ap y i≠i:=fun e=>by have:=a5 hi; rw [e,Cm.cP] at this; cases this
  have hy:Cm.kq tr i (Cm.ap y i) y i (Cm.ap y i)=some y:=if_pos ⟨rfl,rfl⟩
  have VJ:cp n (Cm.kq tr i (Cm.ap y i) y) i (Cm.ap y i)=some y:=by rw [Cm.cA hne]; exact hy
  refine ⟨b1,b2,a7 _ b2 ?_,fun hlen=>?_⟩
  ·have h1:n - i=(n - (i+1))+1:=by omega
   have Zb:=Cm.Sd.entry b1.rp hi VJ;have h2:=(Cm.Sd.up (k:=i) (d:=n - i) b1.rp (by omega) (by omega) a3 (by rw [show n - (n - i)=i by omega]; exact a4)).1;rw [show n - i+i=n by omega] at h2;exact h2 Zb
  ·exfalso
   have hn:y∉cU n tr:=fun hm=>by
    obtain ⟨j,q,hj,hq,e⟩:=en.1 hm
    have e2:Cm.kq tr i (Cm.ap y i) y j q=some y:=by
     by_cases hc:j=i∧q=Cm.ap y i
     ·exact if_pos hc
     ·unfold Cm.kq; rw [if_neg hc]; exact e
    obtain ⟨rfl,rfl⟩:=wP b1 e2 hy;have:=a5 hi;rw [Cm.cA hne,e] at this
    cases this
   have h1:=fA (l:=y :: cU n tr) (m:=cU n (Cm.kq tr i (Cm.ap y i) y)) (List.nodup_cons.2 ⟨hn,oW h⟩) (fun z hz=>by
    rcases List.mem_cons.1 hz with rfl | hz
    ·exact en.2 ⟨i,_,hi,Cm.eH a3 hi,hy⟩
    ·obtain ⟨j,q,hj,hq,e⟩:=en.1 hz
     refine en.2 ⟨j,q,hj,hq,?_⟩
     have Qs:q≠j:=fun e3=>by subst e3; rw [h.diag] at e; cases e
     have:=b2 j q z (by rw [Cm.cA Qs]; exact e)
     rwa [Cm.cA Qs] at this)
   simp only [List.length_cons] at h1;omega
 ·simp only [if_neg hi]
  obtain rfl:i=n:=by omega
  refine ⟨h,fun _ _ _ e=>e,a7 _ (fun _ _ _ e=>e) ?_,fun _=>trivial⟩;rw [Nat.sub_self];show y=_;exact Cm.Fx.all a3 a4
structure LE (n:Nat) (gs:List Nat→Prop) (tr:Tr) (l:List (List Nat)):Prop where
 ok:cE n gs tr
 sub:∀ x∈l,x∈cU n tr
 all:∀ x∈cU n tr,x∈l
 nd:l.Nodup
 gn:∀ s,gs s→Sd n (cp n tr) n s
theorem LE.len {gs:List Nat→Prop} {tr:Tr} {l:List (List Nat)} (h:LE n gs tr l):l.length≤n*n:=by
 have h1:=fA h.nd h.sub;have h2:=mQ n tr n 0;rw [pL] at h2;omega
theorem LE.gr {gs:List Nat→Prop} {tr:Tr} {l:List (List Nat)} (h:LE n gs tr l) {x:List Nat} (hx:x∈l):Gr n gs x∧Gd n x:=by
 obtain ⟨i,p,_,_,e⟩:=en.1 (h.sub x hx);exact ⟨h.ok.mem i p x e,g_ h.ok e⟩
theorem LE.start {gs:List Nat→Prop} {tr:Tr} (h:cE n gs tr) (hg:∀ s,gs s→Sd n (cp n tr) n s):LE n gs tr (cU n tr):=⟨h,fun _ hx=>hx,fun _ hx=>hx,oW h,hg⟩
def jh (n:Nat) (tr:Tr) (l:List (List Nat)):List (List Nat):=(cU n tr).filter fun x=>decide (x∉l)
theorem LE.more {gs:List Nat→Prop} {tr tr':Tr} {l:List (List Nat)} (h:LE n gs tr l) (h':cE n gs tr') (hm:∀ i p u,cp n tr i p=some u→cp n tr' i p=some u):LE n gs tr' (l++jh n tr' l):=by
 have hs:∀ x∈cU n tr,x∈cU n tr':=fun x hx=>by
  obtain ⟨i,p,hi,hp,e⟩:=en.1 hx
  have hne:p≠i:=fun e3=>by subst e3; rw [h.ok.diag] at e; cases e
  refine en.2 ⟨i,p,hi,hp,?_⟩;have:=hm i p x (by rw [Cm.cA hne]; exact e)
  rwa [Cm.cA hne] at this
 refine ⟨h',fun x hx=>?_,fun x hx=>?_,?_,fun s hs=>Sd.mono (fun i p u _=>hm i p u) (h.gn s hs)⟩
 ·rcases List.mem_append.1 hx with hx | hx
  ·exact hs x (h.sub x hx)
  ·exact (List.mem_filter.1 hx).1
 ·by_cases hl:x∈l
  ·exact List.mem_append_left _ hl
  ·exact List.mem_append_right _ (List.mem_filter.2 ⟨hx,by simp [hl]⟩)
 ·refine List.nodup_append.2 ⟨h.nd,List.Pairwise.filter _ (oW h'),fun a ha b hb e=>?_⟩
  subst e;have:=(List.mem_filter.1 hb).2;simp [ha] at this
def n_ (n:Nat) (tr:Tr) (l:List (List Nat)) (a b:Nat):Prop:=Sd n (cp n tr) n (Ma.aj (l.getD a []) (l.getD b []))
theorem kK {l m:List (List Nat)} {a:Nat} (h:a<l.length):(l++m).getD a []=l.getD a []:=by
 rw [List.getD_eq_getElem?_getD,List.getD_eq_getElem?_getD,List.getElem?_append_left h]
theorem n_.more {tr tr':Tr} {l m:List (List Nat)} {a b:Nat} (h:n_ n tr l a b) (ha:a<l.length) (hb:b<l.length) (hm:∀ i p u,cp n tr i p=some u→cp n tr' i p=some u):n_ n tr' (l++m) a b:=by
 unfold n_;rw [kK ha,kK hb];exact Sd.mono (fun i p u _=>hm i p u) h
theorem LE.done {gs:List Nat→Prop} (hg:∀ s,gs s→Gd n s) {tr:Tr} {l:List (List Nat)} (h:LE n gs tr l) (hp:∀ a b,a<l.length→b<l.length→n_ n tr l a b):Cm.kn n (Gr n gs) (cp n tr):=by
 have aB:∀ i p u,i<n→p≠i→cp n tr i p=some u→∃ a,a<l.length∧l.getD a []=u:=fun i p u hi hne e=>by
  rw [Cm.cA hne] at e;have h1:=h.all u (en.2 ⟨i,p,hi,(h.ok.lt i p u e).2,e⟩);obtain ⟨a,ha,e2⟩:=List.getElem_of_mem h1;exact ⟨a,ha,by rw [List.getD_eq_getElem?_getD,List.getElem?_eq_getElem ha]; exact e2⟩
 refine Cm.I4 h.ok.rp hg h.gn (fun i p u hi e=>Im h.ok e) fun i p u j q v hi hj e1 e2=>?_;have gu:=h.ok.rp.gd i p u (Nat.zero_le _) hi e1;have gv:=h.ok.rp.gd j q v (Nat.zero_le _) hj e2
 by_cases c1:p=i
 ·subst c1
  rw [Cm.cP] at e1
  injection e1 with e1
  subst e1;rw [Cm.one_mul gv];exact Cm.Sd.entry h.ok.rp hj e2
 ·by_cases c2:q=j
  ·subst c2
   rw [Cm.cP] at e2
   injection e2 with e2
   subst e2;rw [Cm.mul_one gu];exact Cm.Sd.entry h.ok.rp hi e1
  ·obtain ⟨a,ha,ea⟩:=aB i p u hi c1 e1
   obtain ⟨b,hb,eb⟩:=aB j q v hj c2 e2;have:=hp a b ha hb;unfold n_ at this
   rwa [ea,eb] at this
end Go.Proofs.YtbngdgfmlmkgiaaGreat

namespace Go.Proofs.YtbngdgfmlmkgiaaGreat
open Go.RowKit
open Go.Proofs
open Go.Proofs.Cm (Tr)
theorem Sa {P:Program} {t e:TypeId} (T:Rg.lU P t e z bytes) (ty:TypeId) {v:Value} {us:List Value} (gG:X.ownsRow B e 1 v n xs) (hX:B≤X.heap.size)
  (jV:Rg.cu X xv us) (h1:∀ u∈us,u.oneCell'=true) (hn:n+us.length<1000000000) :
  ∃ v' X',(Builtin.append_ #[t,t] ty #[v,xv]).run P X=.ok v' X'∧X'.ownsRow B e 1 v' (n+us.length) (xs++us)∧X.grownBy X' v.ownBlock∧(v'.ownBlock=v.ownBlock∨v'.ownBlock=some X.heap.size):=by
 obtain ⟨i0,hi,dc,bM,eY⟩:=info_parts T.info;obtain ⟨ad,cap,rfl,q2,q3,q4,q5⟩:=jV
 cases ad with
 | none =>
  have h0:us=[]:=by
   cases us with
   | nil=>rfl
   | cons u r=>obtain ⟨b,o,e1,_⟩:=q5 (by simp); cases e1
  subst h0;exact ⟨v,X,Rg.rB (P:=P) (w:=X) B t ty e i0 1 cap T.ty hi v n xs gG,by simpa using gG,⟨rfl,rfl,rfl,Nat.le_refl _,fun _ _ _=>rfl⟩,.inl rfl⟩
 | some ad =>
  obtain ⟨v',w',hr,h2,h3,h4,h5⟩:=run_append_own_at (P:=P) X B t ty e i0 z 1 bytes T.ty hi dc bM eY T.zc (by decide) v n xs gG ad us.length cap us (by omega) (fun j u hu=>by
   have hj:=(List.getElem?_eq_some_iff.1 hu).1;obtain ⟨b,o,e1,e2,e3⟩:=q5 (by omega);simp at e1; subst e1
   rw [Addr.add_mid,e3 j hj,← hu,List.getElem?_eq_getElem hj]) h1 (by unfold maxLen; omega) (by have:(n+us.length)*bytes≤1000000000*64:=Nat.mul_le_mul (by omega) T.small; omega) hX
  exact ⟨v',w',hr,h2,h3,h5⟩
structure dO (F M:Nat→Prop) (W:World) (v:Value) (l:List (List Nat)):Prop where
 own:∃ B us,B≤W.heap.size∧W.ownsRow B 26 1 v l.length us∧Rg.br F W us (l.map Ma.ah)
 off:∀ k,v.ownBlock=some k→¬ F k∧¬ M k
theorem dw.g {v:Value} {l:List (List Nat)} (h:dw F B W v l) (hF:∀ k,F k→k<B) (hM:∀ k,M k→k<B):dO F M W v l:=by
 obtain ⟨us,h1,h2⟩:=h.own;refine ⟨⟨B,us,h.size,h1,h2⟩,fun k e=>?_⟩;have:=(h1.lt k e).1;exact ⟨fun g=>by have:=hF k g; omega,fun g=>by have:=hM k g; omega⟩
theorem dO.lt {F M:Nat→Prop} {W:World} {v:Value} {l:List (List Nat)} (h:dO F M W v l):∀ k,v.ownBlock=some k→k<W.heap.size:=fun k e=>by
 obtain ⟨B,us,h0,h1,h2⟩:=h.own;exact (h1.lt k e).2
theorem dO.up {v:Value} {l:List (List Nat)} (h:dO F M W v l) (hb:Below W.heap.size W W'):dO (cx F W W') M W' v l:=by
 obtain ⟨B,us,h0,h1,h2⟩:=h.own;refine ⟨⟨B,us,Nat.le_trans h0 hb.size,Rg.aQ h1 hb,(h2.kp (M:=fun _=>False) (Rg.Kp.aK hb) (fun _ _=>id)).mono fun _=>.inl⟩,fun k e=>⟨fun g=>?_,(h.off k e).2⟩⟩;have:=h.lt k e
 rcases g with g | g
 ·exact (h.off k e).1 g
 ·omega
theorem dO.ki {v:Value} {l:List (List Nat)} (h:dO F M W v l) (hk:KI F W F' W' M):dO F' M W' v l:=by
 obtain ⟨B,us,h0,h1,h2⟩:=h.own;refine ⟨⟨B,us,Nat.le_trans h0 hk.kp.size,gM h1 hk.kp (fun k hk e=>(h.off k e).2 hk),(Rg.br.kp h2 hk.kg.kf (fun _ hF hn=>hn hF)).mono hk.kg.sub⟩,fun k e=>⟨fun g=>?_,(h.off k e).2⟩⟩;have:=h.lt k e
 rcases hk.new k g with g | g
 ·exact (h.off k e).1 g
 ·omega
theorem dO.shape {v:Value} {l:List (List Nat)} (h:dO F M W v l):∃ a c,v=.slice a l.length c:=by
 obtain ⟨B,us,h0,h1,h2⟩:=h.own;exact Rg.bY h1
theorem dO.at {v:Value} {l:List (List Nat)} (h:dO F M W v l) {i:Nat} (hi:i<l.length):∃ g c u,v=.slice (some ⟨g,0,none⟩) l.length c∧CL W g (0+i) u∧FP F W u l[i]:=by
 obtain ⟨B,us,h0,h1,h2⟩:=h.own;obtain ⟨g,c,u,e1,e2,e3,e4⟩:=iE h1 hi;obtain ⟨hu,rfl⟩:=List.getElem?_eq_some_iff.1 e3;have:=h2.2 i hu (by rw [List.length_map]; exact hi);rw [List.getElem_map] at this;exact ⟨g,c,us[i],e1,⟨e2,e4⟩,this⟩
theorem dO.app {F M:Nat→Prop} {W:World} {v v2:Value} {l m:List (List Nat)} {B2:Nat} (h:dO F M W v l) (h2:dw F B2 W v2 m) (hF:∀ k,F k→k<W.heap.size) (hM:∀ k,M k→k<W.heap.size) (hn:l.length+m.length<1000000) (ty:TypeId) :
  ∃ a c X,(Builtin.append_ #[22,22] ty #[v,v2]).run Tryz.prog W=.ok (.slice a (l.length+m.length) c) X∧dO F M X (.slice a (l.length+m.length) c) (l++m)∧Rg.Kp (fun k=>v.ownBlock=some k) W X:=by
 obtain ⟨B,us,h0,h1,h3⟩:=h.own;obtain ⟨VK,g1,g2⟩:=h2.own
 have hl:VK.length=m.length:=by have:=g2.1; rwa [List.length_map] at this
 obtain ⟨v',X,r1,r2,r3,r4⟩:=Sa (P:=Tryz.prog) aE ty h1 h0 (Rg.cu.cm g1 (by omega)) g2.Kz (by omega);have hk:Rg.Kp (fun k=>v.ownBlock=some k) W X:=Rg.Kp.cH r3 fun _ e=>e;rw [hl] at r2;obtain ⟨a,c,rfl⟩:=Rg.bY r2;have hg:∀ k,F k→¬ v.ownBlock=some k:=fun k g e=>(h.off k e).1 g;refine ⟨a,c,X,r1,⟨⟨B,us++VK,Nat.le_trans h0 hk.size,by rw [List.length_append]; exact r2,by rw [List.map_append]; exact (h3.kp hk hg).app (g2.kp hk hg)⟩,fun k e=>?_⟩,hk⟩
 rcases r4 with r4 | r4
 ·exact h.off k (by rw [← r4]; exact e)
 ·rw [r4] at e
  injection e with e
  subst e;exact ⟨fun g=>by have:=hF _ g; omega,fun g=>by have:=hM _ g; omega⟩
end Go.Proofs.YtbngdgfmlmkgiaaGreat

namespace Go.Proofs.YtbngdgfmlmkgiaaGreat
open Go.RowKit
open Go.Proofs
open Go.Proofs.Cm (Tr)
attribute [local irreducible] Go.Calls
theorem oY (args:Array Value) (w:World):(callFunc 120 args).run Tryz.prog w=.ok (.enter 120 args) w:=by kernel_rfl
theorem Ay (args:Array Value) (w:World):(callFunc 13 args).run Tryz.prog w=.ok (.enter 13 args) w:=by kernel_rfl
theorem dw.at {v:Value} {l:List (List Nat)} (h:dw F B W v l) {i:Nat} (hi:i<l.length):∃ g c u,v=.slice (some ⟨g,0,none⟩) l.length c∧CL W g (0+i) u∧FP F W u l[i]:=by
 obtain ⟨us,h1,h2⟩:=h.own;obtain ⟨g,c,u,e1,e2,e3,e4⟩:=iE h1 hi;obtain ⟨hu,rfl⟩:=List.getElem?_eq_some_iff.1 e3;have:=h2.2 i hu (by rw [List.length_map]; exact hi);rw [List.getElem_map] at this;exact ⟨g,c,us[i],e1,⟨e2,e4⟩,this⟩
theorem Mp {w:World} {a:Option Addr} {c:Nat} {l:List (List Nat)} (h:Rg.Rows w (.slice a m c) (l.map Ma.ah)) (hk:k<l.length):∃ b o u,a=some ⟨b,o,none⟩∧CL w b (o+k) u∧Rg.Ints w u (Ma.ah l[k]):=by
 obtain ⟨a',c',e,_,_,_,h2⟩:=h.shape
 injection e with e1 _ _
 obtain ⟨b,o,e2,hb,h3⟩:=h2 (by rw [List.length_map]; omega);obtain ⟨u,hu,hi⟩:=h3 k (by rw [List.length_map]; exact hk);rw [List.getElem_map] at hi;exact ⟨b,o,u,e1.trans e2,⟨hu,hb⟩,hi⟩
def gl (E l:List (List Nat)) (i:Nat):List (List Nat):=(E.take i).filter fun x=>decide (x∉l)
theorem Fa {E l:List (List Nat)} {i:Nat} (hi:i<E.length) (h:E[i]∈l):gl E l (i+1)=gl E l i:=by
 unfold gl;rw [List.take_succ_eq_append_getElem hi,List.filter_append];simp [h]
theorem Cy {E l:List (List Nat)} {i:Nat} (hi:i<E.length) (h:E[i]∉l):gl E l (i+1)=gl E l i++[E[i]]:=by
 unfold gl;rw [List.take_succ_eq_append_getElem hi,List.filter_append];simp [h]
theorem Fb (E l:List (List Nat)) (i:Nat):(gl E l i).length≤E.length:=by
 unfold gl;exact Nat.le_trans (List.length_filter_le _ _) (List.length_take_le' _ _)
theorem Cz (n:Nat) (tr:Tr) (l:List (List Nat)):gl (cU n tr) l (cU n tr).length=jh n tr l:=by
 unfold gl jh;rw [List.take_length]
theorem wQ {x:List Nat} {l:List (List Nat)} (hk:k<l.length) (h:x∉l.take k):decide (x∈l.take (k+1))=decide (Ma.ah x=Ma.ah l[k]):=by
 have h1:(Ma.ah x=Ma.ah l[k])↔x=l[k]:=⟨Ma.ou,fun e=>by rw [e]⟩
 have h2:x∈l.take (k+1)↔x=l[k]:=by
  rw [List.take_succ_eq_append_getElem hk,List.mem_append,List.mem_singleton];exact ⟨fun e=>e.resolve_left h,.inr⟩
 exact decide_eq_decide.2 (h2.trans h1.symm)
def Io (F:Nat→Prop) (w:World) (l:List (List Nat)) (e:Ending) (w':World):Prop:=∃ v B,e=.returned v∧w.heap.size≤B∧dw F B w' v l∧Below w.heap.size w w'
theorem wR (aZ:1≤n) (bn:n≤64) {w:World} {tr:Tr} {Rb:Nat→Nat} {V:Nat→Nat→Value} (hT:bW F tb tf n w tr Rb V) (cD:∀ i p u,tr i p=some u→Cm.Gd n u) {lv:Value} {l:List (List Nat)} (hl:Rg.Rows w lv (l.map Ma.ah)) :
  Calls Tryz.prog 121 #[.slice (some ⟨tb,tf,none⟩) n tc,lv] w (Io F w (jh n tr l)):=by
 obtain ⟨la,lc,rfl,_,rY,_,_⟩:=hl.shape;rw [List.length_map] at rY;have CC:=ι rY;have HT:=ι hT;have HG:=ι cD;have HL:=ι hl;have Az:=ι hT.gB;have K:=ι (Below.refl w.heap.size w);clear hT cD hl rY;simp only [List.length_map]
 go_enter Tryz.func121,Tryz.ntmps121
 go_upto_region 2 with fail
 refine b6<|i5 rfl ?_;go_frame
 refine d4 11 (aq 120 _ _ rfl rfl (oY _ _)) ?_;refine (eS aZ bn HT.out HG.out).mono ?_;rintro e1 w1 ⟨av,rfl,eQ,hb⟩;refine ⟨_,rfl,?_⟩;go_frame;replace HT:=ι (HT.out.below hb);replace HL:=ι (HL.out.below hb);replace K:=ι (Rg.acc K.out hb);clear hb;have RA:=ι eQ;refine i3 (av) rfl ?_;go_frame;clear eQ;obtain ⟨aa,ac,Rm⟩:=RA.out.shape;subst Rm;obtain ⟨E,hE⟩:∃ E,Hid (cU n tr=E):=⟨_,ι rfl⟩;rw [hE.out] at RA ⊢;have KB:=K;have K1:=ι (Below.refl w1.heap.size w1);clear K;have RO:=ι (show dw F w1.heap.size w1 (.slice none 0 0) (gl E l 0) from dw.nil F (Nat.le_refl _));have Sb:=ι (show ∀ k,F k→k<w1.heap.size from fun k hk=>Nat.lt_of_lt_of_le (Az.out k hk) KB.out.size)
 have Sc:E.length<1000000:=by
  have h1:=mQ n tr n 0;rw [pL,hE.out] at h1;have h2:n*n≤64*64:=Nat.mul_le_mul bn bn;omega
 have uZ:=ι Sc;clear Sc;go_wp2
 go_loopw [5,7] (fun tv iv wr=>∃ i:Nat,iv=.int .i64 i∧i≤E.length∧Hid (dw F w1.heap.size wr tv (gl E l i))∧Hid (Below w1.heap.size w1 wr)) (fun _ iv _=>E.length - (intOf iv).toNat)
 case atStart=>exact ⟨0,rfl,Nat.zero_le _,RO,K1⟩
 case round =>
  clear RO K1;obtain ⟨i,rfl,hi,RO,K1⟩:=hrel;obtain ⟨ta,Pb,cK⟩:=RO.out.shape;subst cK;have Sc:=uZ.out
  by_cases aB:i<E.length
  ·have uS:(i:Int)<(E.length:Int):=by omega
   have bw:=ι aB;obtain ⟨g,c,u,e1,e2,e3⟩:=RA.out.at aB;simp only [Value.slice.injEq] at e1;obtain ⟨rfl,_,_⟩:=e1;obtain ⟨x,hx⟩:∃ x:List Nat,Hid (E[i]'aB=x):=⟨_,ι rfl⟩
   replace e3:FP F w1 u x:=by rw [← hx.out]; exact e3
   have CA:=ι e2;have UP:=ι e3;have XU:=ι (show Rg.Ints w1 u (Ma.ah x) from e3.np);have VL:=ι (show false=decide (x∈l.take 0) by simp);clear e2 e3;go_wp2
   go_loopw [8,9] (fun sv kv wr=>∃ (b:Bool) (k:Nat),sv=.bool b∧kv=.int .i64 k∧k≤l.length∧Hid (b=decide (x∈l.take k))∧Hid (dw F w1.heap.size wr (.slice ta (gl E l i).length Pb) (gl E l i))∧Hid (Below w1.heap.size w1 wr)) (fun _ kv _=>l.length - (intOf kv).toNat)
   case atStart=>exact ⟨false,0,rfl,rfl,Nat.zero_le _,VL,RO,K1⟩
   case round =>
    clear RO K1 VL;obtain ⟨b,k,rfl,rfl,hk,HB,RO,K1⟩:=hrel
    by_cases Se:b=true
    ·subst Se
     have VM:=ι (show E[i]'bw.out∈l by
      have:=HB.out;rw [hx.out]
      exact List.mem_of_mem_take (of_decide_eq_true this.symm))
     go_upto_region 8 with fail
     refine b6<|i7 rfl<|i8 (bE _ _ true rfl rfl)<|i7 rfl ?_;go_frame
     refine jW (some 21) rfl rfl ?_;go_frame;refine jW (some 22) rfl rfl ?_;go_frame;refine jW (some 23) rfl rfl ?_;go_frame;refine jW (some 24) rfl rfl ?_;go_frame;refine i8 (f4 (.bool false)) ?_;go_frame;go_upto_region 11 with fail
     refine b6<|i7 rfl<|i8 (bE _ _ true rfl rfl) ?_;go_frame
     have HE:=ι (Fa bw.out VM.out);go_wp2
     go_roundw
     case rel=>exact ⟨i+1,by go_num,bw.out,by rw [HE.out]; exact RO,K1⟩
     case measure=>simp [intOf]; have:=bw.out; omega
    ·have yG:b=false:=by simpa using Se
     subst yG;clear Se;have VN:=ι (show x∉l.take k from of_decide_eq_false HB.out.symm);have Zc:=CC.out
     by_cases bP:k<l.length
     ·have iH:(k:Int)<(l.length:Int):=by omega
      have bd:=ι bP;obtain ⟨lb,lo,y,rfl,VO,hy⟩:=Mp HL.out bP;have CY:=ι VO;have YU:=ι hy;obtain ⟨bq,AA⟩:∃ b,Hid (decide (Ma.ah x=Ma.ah (l[k]'bP))=b):=⟨_,ι rfl⟩;clear VO hy;go_upto_region 8 with fail
      refine b6<|i7 rfl<|i8 (bE _ _ false rfl rfl)<|i7 rfl<|i4 rfl ?_;go_frame
      refine i5 rfl<|i8 (e8 Tryz.underlying22)<|i8 (d9 (.bool true) .lss (h:=aL _ d5))<|i8 (f7 (.bool true)) ?_;go_frame
      go_upto_region 10 with fail;have aw:Below wr.heap.size wr wr.drew:=(Below.refl _ _).drew;replace RO:=ι (RO.out.below aw);replace K1:=ι (Rg.acc K1.out aw);clear aw;refine Rg.Any.begin (S:=Rg.aH 9 (fun _=>True) (fun W=>Below w1.heap.size w1 W)) mix ?_;generalize wr.drew=gC at *;have hS:∀ (l:Array Bool) W,Below w1.heap.size w1 W→Rg.aH 9 (fun _=>True) (fun W=>Below w1.heap.size w1 W) l W:=fun l W h=>⟨.inr trivial,h⟩;have hI:=K1.out
      refine c8 0 9 (.slice (some ⟨g,0,none⟩) E.length ac) 28 (hS _ _ hI)<|c8 1 9 (.int .i64 ((i:Nat):Int)) 29 (hS _ _ hI)<|c7 2 9 (.pointer (some ⟨g,0+i,none⟩)) 30 rfl rfl (Rg.ai aE _ _ rfl rfl g (0) (E.length) ac (i) rfl rfl bw.out) (hS _ _ hI)<|c7 3 9 (u) 31 rfl rfl (g6 ⟨g,0+i,none⟩ (fun W hW=>Rg.ae _ _ Tryz.underlying26 ((Below.cell (p:=⟨g,0+i,none⟩) hW CA.out.lt).trans CA.out.cell))) (hS _ _ hI)<|c8 4 9 (.slice (some ⟨lb,lo,none⟩) l.length lc) 32 (hS _ _ hI) ?_;go_frame
      refine c8 5 9 (.int .i64 ((k:Nat):Int)) 33 (hS _ _ hI)<|c7 6 9 (.pointer (some ⟨lb,lo+k,none⟩)) 34 rfl rfl (Rg.ai aE _ _ rfl rfl lb (lo) (l.length) lc (k) rfl rfl bd.out) (hS _ _ hI)<|c7 7 9 (y) 35 rfl rfl (g6 ⟨lb,lo+k,none⟩ (fun W hW=>Rg.ae _ _ Tryz.underlying26 ((Below.cell (p:=⟨lb,lo+k,none⟩) hW CY.out.lt).trans CY.out.cell))) (hS _ _ hI) ?_;go_frame
      refine Rg.Any.one (i:=8) (by kernel_rfl) (Rg.Any.ask (some 36) rfl rfl rfl _ _ (aD 13 _ _ _ rfl rfl rfl (Ay _ _)) ?_);refine (mC (XU.out.below hI) (YU.out.below hI) AA (Below.refl _ _)).mono ?_;rintro e1 l8 ⟨rfl,hb⟩;have cB:=Rg.acc hI hb;have qw:=hb;clear hb hI;refine ⟨_,rfl,(hS _ _ cB),?_⟩;go_frame;refine g5 9 8 rfl rfl (b5 (.bool bq) _ rfl rfl) (hS _ _ cB) ?_;go_frame;refine Rg.Any.done (by kernel_rfl) ?_ _;replace RO:=ι (RO.out.below qw);replace K1:=ι cB;clear hS cB qw;have nv:=ι (show bq=decide (x∈l.take (k+1)) by rw [wQ bd.out VN.out,AA.out]);go_wp2
      go_roundw
      case rel=>exact ⟨bq,k+1,rfl,by go_num,bd.out,nv,RO,K1⟩
      case measure=>simp [intOf]; have:=bd.out; omega
     ·obtain rfl:k=l.length:=by omega
      have VP:=ι (show E[i]'bw.out∉l by
       have:=VN.out;rw [hx.out]
       rwa [List.take_length] at this)
      have wS:=ι (Nat.lt_of_le_of_lt (Fb E l i) uZ.out);go_upto_region 8 with fail
      refine b6<|i7 rfl<|i8 (bE _ _ false rfl rfl)<|i7 rfl<|i4 rfl ?_;go_frame
      refine i5 rfl<|i8 (e8 Tryz.underlying22)<|i8 (d9 (.bool false) .lss (h:=aL _ d6))<|i8 (f7 (.bool false)) ?_;go_frame
      go_upto_region 11 with fail
      refine b6<|i7 rfl<|i8 (bE _ _ false rfl rfl) ?_;go_frame
      go_upto_region 12 with fail
      refine b6<|i5 rfl<|i5 rfl<|i4 rfl<|i8 (ag aE _ _ rfl g (0) (E.length) ac (i) rfl rfl bw.out) ?_;go_frame
      refine i8 (d8 (u) ⟨g,0+i,none⟩ (Rg.ae _ _ Tryz.underlying26 ((Below.cell (p:=⟨g,0+i,none⟩) K1.out CA.out.lt).trans CA.out.cell)))<|i8 (Rg.aC _ _ _ rfl (u) rfl (dI wr _ (by obtain ⟨_,a,cc,_,e,_⟩:=UP.out.np.len; exact ⟨a,_,cc,e⟩))) ?_;go_frame
      obtain ⟨a9,c9,X9,r1,r2,r3⟩:=RO.out.push Sb.out (UP.out.below K1.out) (by obtain ⟨_,a,cc,_,e,_⟩:=UP.out.np.len; exact ⟨a,_,cc,e⟩) wS.out 22
      refine i8 (Rg.aP _ _ _ rfl rfl rfl r1)<|i5 rfl ?_;go_frame
      have HE:=ι (Cy bw.out VP.out);have qu:=ι r2;have K2:=ι (r3 (Nat.le_refl _) K1.out);clear r1 r2 r3;go_wp2
      go_roundw
      case rel=>exact ⟨i+1,by go_num,bw.out,by rw [HE.out,hx.out]; exact qu,K2⟩
      case measure=>simp [intOf]; have:=bw.out; omega
  ·obtain rfl:i=E.length:=by omega
   have uS:¬ (E.length:Int)<(E.length:Int):=by omega
   have qu:=ι (show dw F w1.heap.size wr _ (jh n tr l) by have:=RO.out; rw [← Cz,hE.out]; exact this);have Zd:=ι (KB.out.trans (K1.out.mono KB.out.size));go_wp2;go_ret;exact (show Io _ _ _ _ _ from ⟨_,_,rfl,KB.out.size,qu.out,Zd.out⟩)
end Go.Proofs.YtbngdgfmlmkgiaaGreat
