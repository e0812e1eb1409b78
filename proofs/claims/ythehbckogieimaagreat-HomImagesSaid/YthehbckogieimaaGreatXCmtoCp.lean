/- Lemmas and contracts on the way to the statement; no condition of their own beyond those written. -/
import Derived.Test.YthehbckogieimaaGreatXMatoOr
import Derived.Lib.Hide
import Derived.Deep.CutRange
import Derived.Deep.CutBlock
import Derived.IntWalk
import Derived.Great.BuildSlice
import Derived.ArgAppend
import Derived.Laws.CopyOwn
import Derived.StillTailTactics
import Derived.Deep.MidRow
import Derived.WalkSpells
import Derived.WalkLawsBesides
import Derived.Maps.AppendAt
import Derived.OwnWalk
import Derived.OrdersHeld
import Derived.Deep.OwnRows
import Derived.WalkKit
import Derived.Laws.OwnMore
import Derived.Test.YthehbckogieimaaGreatProg
import Derived.Outline
import Derived.Deep.DeepFit
import Derived.BigQuiet
import Derived.Deep.QuietTactic
import Derived.Shelf.Sort.Plain
import Derived.Sort.OwnSortedInts
import Derived.WideMake
import Derived.MapKept
import Derived.ChangeMaps5
set_option linter.unusedVariables false
set_option linter.unusedSimpArgs false
set_option maxRecDepth 100000
set_option maxHeartbeats 8000000
namespace Go.Proofs.Cm
open Go.Proofs
def Gd (n:Nat) (p:List Nat):Prop:=Ma.okN p∧p.length=n
def ap (x:List Nat) (i:Nat):Nat:=x.getD i 0
theorem ap_at {x:List Nat} {i:Nat} (h:i<x.length):ap x i=x[i]:=by simp [ap,List.getD,List.getElem?_eq_getElem h]
theorem ap_lt {n:Nat} {x:List Nat} (h:Gd n x) {i:Nat} (hi:i<n):ap x i<n:=by
 have hl:i<x.length:=by rw [h.2]; exact hi
 rw [ap_at hl,← h.2];exact h.1.1 _ (List.getElem_mem hl)
theorem ap_inj {n:Nat} {x:List Nat} (h:Gd n x) {i j:Nat} (hi:i<n) (hj:j<n) (e:ap x i=ap x j):i=j:=by
 have h1:i<x.length:=by rw [h.2]; exact hi
 have h2:j<x.length:=by rw [h.2]; exact hj
 rw [ap_at h1,ap_at h2] at e;exact (List.getElem_inj h.1.2).1 e
theorem gd_ext {n:Nat} {a b:List Nat} (ha:a.length=n) (hb:b.length=n) (h:∀ i,i<n→ap a i=ap b i):a=b:=by
 apply List.ext_getElem (by omega)
 intro i h1 h2;have:=h i (by omega)
 rwa [ap_at h1,ap_at h2] at this
theorem gd_one (n:Nat):Gd n (Ma.oneN n):=⟨Ma.okN_oneN n,Ma.len_oneN n⟩
theorem gd_mul {n:Nat} {a b:List Nat} (ha:Gd n a) (hb:Gd n b):Gd n (Ma.mulN a b):=⟨Ma.okN_mulN ha.1 hb.1 (ha.2.trans hb.2.symm),by rw [Ma.len_mulN]; exact ha.2⟩
theorem gd_inv {n:Nat} {a:List Nat} (ha:Gd n a):Gd n (Ma.invN a):=⟨Ma.okN_invN ha.1,by rw [Ma.len_invN]; exact ha.2⟩
theorem ap_one {n i:Nat} (h:i<n):ap (Ma.oneN n) i=i:=by
 rw [ap_at (by rw [Ma.len_oneN]; exact h),Ma.get_oneN]
theorem ap_mul {n:Nat} {a b:List Nat} (ha:Gd n a) {i:Nat} (h:i<n):ap (Ma.mulN a b) i=ap b (ap a i):=by
 have hl:i<a.length:=by rw [ha.2]; exact h
 rw [ap_at (by rw [Ma.len_mulN]; exact hl),Ma.get_mulN,ap_at hl]; rfl
theorem ap_inv {n:Nat} {s:List Nat} (hs:Gd n s) {i:Nat} (h:i<n):ap (Ma.invN s) (ap s i)=i:=by
 have hl:i<s.length:=by rw [hs.2]; exact h
 have h2:=ap_lt hs h;rw [ap_at (x:=Ma.invN s) (by rw [Ma.len_invN,hs.2]; exact h2),Ma.get_invN,ap_at hl];exact Ma.idx_get hs.1 hl
theorem ap_inv2 {n:Nat} {s:List Nat} (hs:Gd n s) {i:Nat} (h:i<n):ap s (ap (Ma.invN s) i)=i:=by
 have h1:=ap_lt (gd_inv hs) h;have h2:=ap_inv (gd_inv hs) h;refine ap_inj (gd_inv hs) (ap_lt hs h1) h ?_;rw [ap_inv hs h1]
theorem mul_assoc {n:Nat} {a b c:List Nat} (ha:Gd n a) (hb:Gd n b):Ma.mulN (Ma.mulN a b) c=Ma.mulN a (Ma.mulN b c):=by
 refine gd_ext (n:=n) (by rw [Ma.len_mulN,Ma.len_mulN]; exact ha.2) (by rw [Ma.len_mulN]; exact ha.2) fun i hi=>?_;rw [ap_mul (gd_mul ha hb) hi,ap_mul ha hi,ap_mul ha hi,ap_mul hb (ap_lt ha hi)]
theorem one_mul {n:Nat} {x:List Nat} (hx:Gd n x):Ma.mulN (Ma.oneN n) x=x :=
 gd_ext (n:=n) (by rw [Ma.len_mulN,Ma.len_oneN]) hx.2 fun i hi=>by rw [ap_mul (gd_one n) hi,ap_one hi]
theorem mul_one {n:Nat} {x:List Nat} (hx:Gd n x):Ma.mulN x (Ma.oneN n)=x :=
 gd_ext (n:=n) (by rw [Ma.len_mulN]; exact hx.2) hx.2 fun i hi=>by rw [ap_mul hx hi,ap_one (ap_lt hx hi)]
theorem mul_inv {n:Nat} {x:List Nat} (hx:Gd n x):Ma.mulN x (Ma.invN x)=Ma.oneN n :=
 gd_ext (n:=n) (by rw [Ma.len_mulN]; exact hx.2) (Ma.len_oneN n) fun i hi=>by rw [ap_mul hx hi,ap_inv hx hi,ap_one hi]
theorem inv_mul {n:Nat} {x:List Nat} (hx:Gd n x):Ma.mulN (Ma.invN x) x=Ma.oneN n :=
 gd_ext (n:=n) (by rw [Ma.len_mulN,Ma.len_invN]; exact hx.2) (Ma.len_oneN n) fun i hi=>by rw [ap_mul (gd_inv hx) hi,ap_inv2 hx hi,ap_one hi]
theorem inv_one (n:Nat):Ma.invN (Ma.oneN n)=Ma.oneN n:=by
 have:=mul_inv (gd_one n)
 rwa [one_mul (gd_inv (gd_one n))] at this
theorem mul_inv_cancel {n:Nat} {x u:List Nat} (hx:Gd n x) (hu:Gd n u):Ma.mulN (Ma.mulN x (Ma.invN u)) u=x:=by
 rw [mul_assoc hx (gd_inv hu),inv_mul hu,mul_one hx]
theorem mul_cancel_inv {n:Nat} {x u:List Nat} (hx:Gd n x) (hu:Gd n u):Ma.mulN (Ma.mulN x u) (Ma.invN u)=x:=by
 rw [mul_assoc hx hu,mul_inv hu,mul_one hx]
structure IsG (n:Nat) (H:List Nat→Prop):Prop where
 gd:∀ x,H x→Gd n x
 one:H (Ma.oneN n)
 mul:∀ x y,H x→H y→H (Ma.mulN x y)
 inv:∀ x,H x→H (Ma.invN x)
inductive Gr (n:Nat) (gs:List Nat→Prop):List Nat→Prop
 | one:Gr n gs (Ma.oneN n)
 | gen (s:List Nat) (h:gs s):Gr n gs s
 | mul (x y:List Nat) (hx:Gr n gs x) (hy:Gr n gs y):Gr n gs (Ma.mulN x y)
 | inv (x:List Nat) (hx:Gr n gs x):Gr n gs (Ma.invN x)
theorem Gr.isG {n:Nat} {gs:List Nat→Prop} (h:∀ s,gs s→Gd n s):IsG n (Gr n gs):=by
 refine ⟨fun x hx=>?_,.one,fun x y=>.mul x y,fun x=>.inv x⟩
 induction hx with
 | one=>exact gd_one n
 | gen s hs=>exact h s hs
 | mul x y _ _ i1 i2=>exact gd_mul i1 i2
 | inv x _ i1=>exact gd_inv i1
theorem Gr.sub {n:Nat} {gs:List Nat→Prop} {H:List Nat→Prop} (hH:IsG n H) (h:∀ s,gs s→H s) {x:List Nat} (hx:Gr n gs x):H x:=by
 induction hx with
 | one=>exact hH.one
 | gen s hs=>exact h s hs
 | mul x y _ _ i1 i2=>exact hH.mul _ _ i1 i2
 | inv x _ i1=>exact hH.inv _ i1
theorem Gr.mono {n:Nat} {gs gs':List Nat→Prop} (h:∀ s,gs s→gs' s) {x:List Nat} (hx:Gr n gs x):Gr n gs' x:=by
 induction hx with
 | one=>exact .one
 | gen s hs=>exact .gen s (h s hs)
 | mul x y _ _ i1 i2=>exact .mul _ _ i1 i2
 | inv x _ i1=>exact .inv _ i1
def Fx (i:Nat) (x:List Nat):Prop:=∀ j,j<i→ap x j=j
theorem Fx.mono {i j:Nat} {x:List Nat} (h:Fx i x) (hij:j≤i):Fx j x:=fun k hk=>h k (Nat.lt_of_lt_of_le hk hij)
theorem Fx.one {n i:Nat} (hi:i≤n):Fx i (Ma.oneN n):=fun _ hj=>ap_one (Nat.lt_of_lt_of_le hj hi)
theorem Fx.mul {n i:Nat} {x y:List Nat} (gx:Gd n x) (hi:i≤n) (hx:Fx i x) (hy:Fx i y):Fx i (Ma.mulN x y):=fun j hj=>by
 rw [ap_mul gx (Nat.lt_of_lt_of_le hj hi),hx j hj,hy j hj]
theorem Fx.inv {n i:Nat} {x:List Nat} (gx:Gd n x) (hi:i≤n) (hx:Fx i x):Fx i (Ma.invN x):=fun j hj=>by
 have:=ap_inv gx (Nat.lt_of_lt_of_le hj hi)
 rwa [hx j hj] at this
theorem Fx.all {n:Nat} {x:List Nat} (gx:Gd n x) (hx:Fx n x):x=Ma.oneN n :=
 gd_ext gx.2 (Ma.len_oneN n) fun i hi=>by rw [hx i hi,ap_one hi]
def St (H:List Nat→Prop) (i:Nat) (x:List Nat):Prop:=H x∧Fx i x
abbrev Tr:=Nat→Nat→Option (List Nat)
def Sd (n:Nat) (tr:Tr):Nat→List Nat→Prop
 | 0,x=>x=Ma.oneN n
 | d+1,x=>∃ u,tr (n - (d+1)) (ap x (n - (d+1)))=some u∧Sd n tr d (Ma.mulN x (Ma.invN u))
structure Rp (n lo:Nat) (tr:Tr):Prop where
 gd:∀ i p u,lo≤i→i<n→tr i p=some u→Gd n u
 fx:∀ i p u,lo≤i→i<n→tr i p=some u→Fx i u
 at_:∀ i p u,lo≤i→i<n→tr i p=some u→ap u i=p
 self:∀ i,lo≤i→i<n→tr i i=some (Ma.oneN n)
theorem Sd.fx {n lo:Nat} {tr:Tr} (hr:Rp n lo tr):∀ {d:Nat} {x:List Nat},d≤n→lo≤n - d→Gd n x→Sd n tr d x→Fx (n - d) x
 | 0,x,hd,_,gx,h=>by
  cases h
  exact Fx.one (by omega)
 | d+1,x,hd,hl,gx,⟨u,hu,h⟩=>by
  have gu:=hr.gd _ _ _ hl (by omega) hu;have h1:=Sd.fx hr (by omega) (by omega) (gd_mul gx (gd_inv gu)) h;have h2:=mul_inv_cancel gx gu;have h3:=Fx.mul (i:=n - (d+1)) (gd_mul gx (gd_inv gu)) (by omega) (h1.mono (by omega)) (hr.fx _ _ _ hl (by omega) hu)
  rwa [h2] at h3
theorem Sd.one {n lo:Nat} {tr:Tr} (hr:Rp n lo tr):∀ {d:Nat},d≤n→lo≤n - d→Sd n tr d (Ma.oneN n)
 | 0,_,_=>rfl
 | d+1,hd,hl=>⟨Ma.oneN n,by rw [ap_one (by omega)]; exact hr.self _ hl (by omega),by rw [inv_one,one_mul (gd_one n)]; exact Sd.one hr (by omega) (by omega)⟩
theorem Sd.next {n lo:Nat} {tr:Tr} (hr:Rp n lo tr) {d:Nat} (hd:d+1≤n) (hl:lo≤n - (d+1)) {x:List Nat} (gx:Gd n x) (hx:ap x (n - (d+1))=n - (d+1)):Sd n tr (d+1) x↔Sd n tr d x:=by
 have e:tr (n - (d+1)) (ap x (n - (d+1)))=some (Ma.oneN n):=by rw [hx]; exact hr.self _ hl (by omega)
 constructor
 ·rintro ⟨u,hu,h⟩
  rw [e] at hu
  cases hu
  rwa [inv_one,mul_one gx] at h
 ·intro h
  exact ⟨_,e,by rw [inv_one,mul_one gx]; exact h⟩
theorem Sd.up {n lo:Nat} {tr:Tr} (hr:Rp n lo tr):∀ {k d:Nat},d+k≤n→lo≤n - (d+k)→∀ {x:List Nat},Gd n x→Fx (n - d) x→(Sd n tr (d+k) x↔Sd n tr d x)
 | 0,d,_,_,x,_,_=>Iff.rfl
 | k+1,d,h,hl,x,gx,hx=>by
  have h1:=Sd.next hr (d:=d+k) (by omega) hl gx (hx _ (by omega));exact h1.trans (Sd.up hr (by omega) (by omega) gx hx)
theorem Sd.cons {n lo:Nat} {tr:Tr} (hr:Rp n lo tr) {d p:Nat} (hd:d+1≤n) (hl:lo≤n - (d+1)) {y u:List Nat} (gy:Gd n y) (hy:Sd n tr d y) (hu:tr (n - (d+1)) p=some u):Sd n tr (d+1) (Ma.mulN y u):=by
 have gu:=hr.gd _ _ _ hl (by omega) hu;have fy:=Sd.fx hr (by omega) (by omega) gy hy
 have e:ap (Ma.mulN y u) (n - (d+1))=p:=by
  rw [ap_mul gy (by omega),fy _ (by omega),hr.at_ _ _ _ hl (by omega) hu]
 exact ⟨u,by rw [e]; exact hu,by rw [mul_cancel_inv gy gu]; exact hy⟩
theorem Sd.mono {n:Nat} {tr tr':Tr}:∀ {d:Nat},(∀ i p u,n - d≤i→tr i p=some u→tr' i p=some u)→∀ {x:List Nat},Sd n tr d x→Sd n tr' d x
 | 0,_,_,e=>e
 | d+1,h,_,⟨u,hu,hs⟩=>⟨u,h _ _ _ (Nat.le_refl _) hu,Sd.mono (fun i p u hi=>h i p u (by omega)) hs⟩
structure Tow (n lo:Nat) (gn:Nat→List Nat→Prop) (tr:Tr):Prop where
 rp:Rp n lo tr
 gd:∀ i s,lo≤i→i<n→gn i s→Gd n s
 low:∀ i s,lo≤i→i+1<n→gn (i+1) s→Gr n (gn i) s
 mem:∀ i p u,lo≤i→i<n→tr i p=some u→Gr n (gn i) u
 cl:∀ i p u s,lo≤i→i<n→tr i p=some u→gn i s→∃ v,tr i (ap s p)=some v∧Sd n tr (n - (i+1)) (Ma.mulN (Ma.mulN u s) (Ma.invN v))
theorem Tow.sub {n lo:Nat} {gn:Nat→List Nat→Prop} {tr:Tr} (h:Tow n lo gn tr) {i:Nat} (hl:lo≤i):∀ {k:Nat},i+k<n→∀ {x:List Nat},Gr n (gn (i+k)) x→Gr n (gn i) x
 | 0,_,x,hx=>hx
 | k+1,hk,x,hx=>h.sub hl (k:=k) (by omega) (Gr.sub (Gr.isG (fun s hs=>h.gd _ s (by omega) (by omega) hs)) (fun s hs=>h.low (i+k) s (by omega) (by omega) hs) hx)
theorem Tow.gr {n lo:Nat} {gn:Nat→List Nat→Prop} {tr:Tr} (h:Tow n lo gn tr) {i:Nat} (hl:lo≤i) (hi:i<n):∀ {d:Nat},i+d≤n→∀ {x:List Nat},Gd n x→Sd n tr d x→n - d≥i→Gr n (gn i) x
 | 0,_,x,_,e,_=>by cases e; exact .one
 | d+1,hd,x,gx,⟨u,hu,hs⟩,hge=>by
  have gu:=h.rp.gd _ _ _ (by omega) (by omega) hu;have h1:=Tow.gr h hl hi (d:=d) (by omega) (gd_mul gx (gd_inv gu)) hs (by omega)
  have h2:Gr n (gn i) u:=by
   have:=h.mem _ _ _ (by omega) (by omega) hu;exact h.sub hl (i:=i) (k:=n - (d+1) - i) (by omega) (by rwa [show i+(n - (d+1) - i)=n - (d+1) by omega])
  have:=Gr.mul _ _ h1 h2
  rwa [mul_inv_cancel gx gu] at this
def pw (n:Nat) (s:List Nat):Nat→List Nat
 | 0=>Ma.oneN n
 | k+1=>Ma.mulN (pw n s k) s
theorem pw_gd {n:Nat} {s:List Nat} (hs:Gd n s):∀ k,Gd n (pw n s k)
 | 0=>gd_one n
 | k+1=>gd_mul (pw_gd hs k) hs
theorem pw_add {n:Nat} {s:List Nat} (hs:Gd n s) (i:Nat):∀ j,pw n s (i+j)=Ma.mulN (pw n s i) (pw n s j)
 | 0=>(mul_one (pw_gd hs i)).symm
 | j+1=>by
  show Ma.mulN (pw n s (i+j)) s=Ma.mulN (pw n s i) (Ma.mulN (pw n s j) s);rw [pw_add hs i j,mul_assoc (pw_gd hs i) (pw_gd hs j)]
def allL (n:Nat):Nat→List (List Nat)
 | 0=>[[]]
 | k+1=>(allL n k).flatMap fun l=>(List.range n).map fun x=>x :: l
theorem mem_allL {n:Nat}:∀ {l:List Nat},(∀ x∈l,x<n)→l∈allL n l.length
 | [],_=>by simp [allL]
 | x :: l,h=>by
  have h1:=mem_allL (l:=l) (fun y hy=>h y (List.mem_cons_of_mem _ hy));have h2:=h x (List.mem_cons_self ..);rw [List.length_cons,allL,List.mem_flatMap];exact ⟨l,h1,List.mem_map.2 ⟨x,List.mem_range.2 h2,rfl⟩⟩
theorem pw_mem {n:Nat} {s:List Nat} (hs:Gd n s) (k:Nat):pw n s k∈allL n n:=by
 have h:=pw_gd hs k;have:=mem_allL (n:=n) (l:=pw n s k) (fun x hx=>by rw [← h.2]; exact h.1.1 x hx)
 rwa [h.2] at this
theorem pw_eq {n:Nat} {s:List Nat} (hs:Gd n s):∃ i j,i<j∧pw n s i=pw n s j:=by
 by_cases h:∃ i j,i<j∧pw n s i=pw n s j
 ·exact h
 exfalso
 have hn:((List.range ((allL n n).length+1)).map (pw n s)).Nodup:=by
  rw [List.Nodup,List.pairwise_iff_getElem];intro i j hi hj hij e;simp at e;exact h ⟨i,j,hij,e⟩
 have:=List.Nodup.length_le_of_subset hn (l₂:=allL n n) (fun x hx=>by
  obtain ⟨k,_,rfl⟩:=List.mem_map.1 hx
  exact pw_mem hs k)
 simp at this;omega
theorem inv_pw {n:Nat} {s:List Nat} (hs:Gd n s):∃ k,Ma.invN s=pw n s k:=by
 obtain ⟨i,j,hij,e⟩:=pw_eq hs;obtain ⟨k,rfl⟩:∃ k,j=i+(k+1):=⟨j - i - 1,by omega⟩;refine ⟨k,?_⟩
 have h1:pw n s (k+1)=Ma.oneN n:=by
  rw [pw_add hs] at e
  have e2:Ma.mulN (Ma.invN (pw n s i)) (pw n s i)=Ma.mulN (Ma.invN (pw n s i)) (Ma.mulN (pw n s i) (pw n s (k+1))):=by rw [← e]
  rw [inv_mul (pw_gd hs i),← mul_assoc (gd_inv (pw_gd hs i)) (pw_gd hs i),inv_mul (pw_gd hs i),one_mul (pw_gd hs (k+1))] at e2;exact e2.symm
 have h2:Ma.mulN (Ma.mulN (pw n s k) s) (Ma.invN s)=Ma.mulN (Ma.oneN n) (Ma.invN s):=by rw [← h1]; rfl
 rw [mul_cancel_inv (pw_gd hs k) hs,one_mul (gd_inv hs)] at h2;exact h2.symm
theorem gr_right {n:Nat} {gs:List Nat→Prop} (hg:∀ s,gs s→Gd n s) {P:List Nat→Prop} (hs:∀ x s,Gr n gs x→P x→gs s→P (Ma.mulN x s)) :
  ∀ {x:List Nat},Gr n gs x→∀ y,Gr n gs y→P y→P (Ma.mulN y x)∧P (Ma.mulN y (Ma.invN x)):=by
 have G:=Gr.isG (n:=n) hg;intro x hx
 induction hx with
 | one=>intro y gy hy; rw [inv_one,mul_one (G.gd y gy)]; exact ⟨hy,hy⟩
 | gen s h =>
  intro y gy hy;refine ⟨hs y s gy hy h,?_⟩;obtain ⟨k,hk⟩:=inv_pw (hg s h);rw [hk]
  have:∀ k,Gr n gs (Ma.mulN y (pw n s k))∧P (Ma.mulN y (pw n s k)):=by
   intro k
   induction k with
   | zero=>show Gr n gs (Ma.mulN y (Ma.oneN n))∧P (Ma.mulN y (Ma.oneN n)); rw [mul_one (G.gd y gy)]; exact ⟨gy,hy⟩
   | succ k ih =>
    show Gr n gs (Ma.mulN y (Ma.mulN (pw n s k) s))∧P (Ma.mulN y (Ma.mulN (pw n s k) s));rw [← mul_assoc (G.gd y gy) (pw_gd (hg s h) k)];exact ⟨.mul _ _ ih.1 (.gen s h),hs _ s ih.1 ih.2 h⟩
  exact (this k).2
 | mul a b ha hb ia ib =>
  intro y gy hy
  have e:Ma.invN (Ma.mulN a b)=Ma.mulN (Ma.invN b) (Ma.invN a):=by
   have ga:=G.gd a ha;have gb:=G.gd b hb;refine gd_ext (n:=n) (gd_inv (gd_mul ga gb)).2 (gd_mul (gd_inv gb) (gd_inv ga)).2 fun i hi=>?_;rw [ap_mul (gd_inv gb) hi];have h1:=ap_lt (gd_inv gb) hi;have h2:=ap_lt (gd_inv ga) h1;refine ap_inj (gd_mul ga gb) (ap_lt (gd_inv (gd_mul ga gb)) hi) h2 ?_;rw [ap_inv2 (gd_mul ga gb) hi,ap_mul ga h2,ap_inv2 ga h1,ap_inv2 gb hi]
  refine ⟨?_,?_⟩
  ·have:=(ib (Ma.mulN y a) (.mul _ _ gy ha) (ia y gy hy).1).1
   rwa [mul_assoc (G.gd y gy) (G.gd a ha)] at this
  ·have:=(ia (Ma.mulN y (Ma.invN b)) (.mul _ _ gy (.inv _ hb)) (ib y gy hy).2).2
   rwa [mul_assoc (G.gd y gy) (gd_inv (G.gd b hb)),← e] at this
 | inv a ha ia =>
  intro y gy hy
  have e:Ma.invN (Ma.invN a)=a:=by
   have ga:=G.gd a ha;refine gd_ext (n:=n) (gd_inv (gd_inv ga)).2 ga.2 fun i hi=>?_;refine ap_inj (gd_inv ga) (ap_lt (gd_inv (gd_inv ga)) hi) (ap_lt ga hi) ?_;rw [ap_inv2 (gd_inv ga) hi,ap_inv ga hi]
  rw [e];exact ⟨(ia y gy hy).2,(ia y gy hy).1⟩
theorem gr_ind {n:Nat} {gs:List Nat→Prop} (hg:∀ s,gs s→Gd n s) {P:List Nat→Prop} (h1:P (Ma.oneN n)) (hs:∀ x s,Gr n gs x→P x→gs s→P (Ma.mulN x s)) {x:List Nat} (hx:Gr n gs x):P x:=by
 have:=(gr_right hg hs hx _ .one h1).1
 rwa [one_mul ((Gr.isG hg).gd x hx)] at this
structure IsTr (n:Nat) (H:List Nat→Prop) (tr:Tr):Prop where
 rp:Rp n 0 tr
 mem:∀ i p u,i<n→tr i p=some u→H u
 all:∀ i x,i<n→St H i x→∃ u,tr i (ap x i)=some u
theorem Tow.clos {n lo:Nat} {gn:Nat→List Nat→Prop} {tr:Tr} (h:Tow n lo gn tr):∀ {d:Nat},d≤n→lo≤n - d→(∀ y z,Gd n y→Gd n z→Sd n tr d y→Sd n tr d z→Sd n tr d (Ma.mulN y z))∧(0<d→∀ x,Gr n (gn (n - d)) x→Sd n tr d x)
 | 0,_,_=>⟨fun y z _ gz hy hz=>by
   have hy':y=Ma.oneN n:=hy;have hz':z=Ma.oneN n:=hz;show Ma.mulN y z=Ma.oneN n
   rw [hy',hz',one_mul (gd_one n)],fun h=>by omega⟩
 | d+1,hd,hl=>by
  obtain ⟨ih,_⟩:=Tow.clos h (d:=d) (by omega) (by omega)
  have hi:n - (d+1)<n:=by omega
  have hgd:∀ s,gn (n - (d+1)) s→Gd n s:=fun s hs=>h.gd _ s hl hi hs
  have key:∀ x,Gr n (gn (n - (d+1))) x→Sd n tr (d+1) x:=by
   intro x hx;refine gr_ind hgd (P:=Sd n tr (d+1)) (Sd.one h.rp hd hl) ?_ hx;intro x s gx ⟨u,hu,hy⟩ hs;have Gx:=(Gr.isG hgd).gd x gx;have gu:=h.rp.gd _ _ _ hl hi hu;have gs:=hgd s hs;obtain ⟨v,hv,hq⟩:=h.cl _ _ _ _ hl hi hu hs;have gv:=h.rp.gd _ _ _ hl hi hv;rw [show n - (n - (d+1)+1)=d by omega] at hq;have gy:=gd_mul Gx (gd_inv gu);have gq:=gd_mul (gd_mul gu gs) (gd_inv gv);have h1:=Sd.cons h.rp hd hl (gd_mul gy gq) (ih _ _ gy gq hy hq) hv
   have e:Ma.mulN (Ma.mulN (Ma.mulN x (Ma.invN u)) (Ma.mulN (Ma.mulN u s) (Ma.invN v))) v=Ma.mulN x s:=by
    rw [mul_assoc gy gq,mul_inv_cancel (gd_mul gu gs) gv,← mul_assoc gy gu,mul_inv_cancel Gx gu]
   rwa [e] at h1
  refine ⟨fun y z gy gz hy hz=>key _ (.mul _ _ (h.gr hl hi (by omega) gy hy (Nat.le_refl _)) (h.gr hl hi (by omega) gz hz (Nat.le_refl _))),fun _=>key⟩
theorem Tow.isTr {n:Nat} {gn:Nat→List Nat→Prop} {tr:Tr} (h:Tow n 0 gn tr) (hn:0<n):IsTr n (Gr n (gn 0)) tr:=by
 have hgd:∀ s,gn 0 s→Gd n s:=fun s hs=>h.gd _ s (Nat.zero_le _) hn hs;refine ⟨h.rp,fun i p u hi hu=>?_,fun i x hi hx=>?_⟩
 ·have:=h.mem i p u (Nat.zero_le _) hi hu
  exact h.sub (i:=0) (Nat.le_refl _) (k:=i) (by omega) (by rwa [Nat.zero_add])
 ·have gx:=(Gr.isG hgd).gd x hx.1
  have h1:=(h.clos (d:=n) (Nat.le_refl _) (Nat.zero_le _)).2 hn x (by rw [Nat.sub_self]; exact hx.1);have h2:=(Sd.up h.rp (d:=n - i) (k:=i) (by omega) (Nat.zero_le _) gx (by rw [show n - (n - i)=i by omega]; exact hx.2)).1 (by rw [show n - i+i=n by omega]; exact h1);rw [show n - i=(n - i - 1)+1 by omega] at h2;obtain ⟨u,hu,_⟩:=h2;rw [show n - (n - i - 1+1)=i by omega] at hu;exact ⟨u,hu⟩
theorem Sd.entry {n:Nat} {tr:Tr} (hr:Rp n 0 tr) {i p:Nat} (hi:i<n) {u:List Nat} (hu:tr i p=some u):Sd n tr n u:=by
 have gu:=hr.gd _ _ _ (Nat.zero_le _) hi hu;have h1:Sd n tr (n - i - 1+1) (Ma.mulN (Ma.oneN n) u):=Sd.cons hr (by omega) (Nat.zero_le _) (gd_one n) (Sd.one hr (by omega) (Nat.zero_le _)) (p:=p) (by rw [show n - (n - i - 1+1)=i by omega]; exact hu);rw [one_mul gu,show n - i - 1+1=n - i by omega] at h1;have h2:=(Sd.up hr (d:=n - i) (k:=i) (by omega) (Nat.zero_le _) gu (by rw [show n - (n - i)=i by omega]; exact hr.fx _ _ _ (Nat.zero_le _) hi hu)).2 h1
 rwa [show n - i+i=n by omega] at h2
theorem tab_clos {n:Nat} {tr:Tr} (hr:Rp n 0 tr) (hc:∀ i p u j q v,i<n→j<n→tr i p=some u→tr j q=some v→Sd n tr n (Ma.mulN u v)) :
  ∀ {d:Nat},d≤n→∀ y z,Gd n y→Gd n z→Sd n tr d y→Sd n tr d z→Sd n tr d (Ma.mulN y z)
 | 0,_,y,z,_,gz,hy,hz=>by
  have hy':y=Ma.oneN n:=hy;have hz':z=Ma.oneN n:=hz;show Ma.mulN y z=Ma.oneN n;rw [hy',hz',one_mul (gd_one n)]
 | d+1,hd,y,z,gy,gz,hy,hz=>by
  have ih:=tab_clos hr hc (d:=d) (by omega)
  have R:∀ x j q b,Gd n x→Sd n tr (d+1) x→n - (d+1)≤j→j<n→tr j q=some b→Sd n tr (d+1) (Ma.mulN x b):=by
   intro x j q b gx ⟨u,hu,hx⟩ hj1 hj2 hb;have gu:=hr.gd _ _ _ (by omega) (by omega) hu;have gb:=hr.gd _ _ _ (by omega) hj2 hb;have h1:=hc _ _ _ _ _ _ (by omega) hj2 hu hb;have hf:Fx (n - (d+1)) (Ma.mulN u b):=Fx.mul gu (by omega) (hr.fx _ _ _ (by omega) (by omega) hu) ((hr.fx _ _ _ (by omega) hj2 hb).mono hj1);have h2:=(Sd.up hr (d:=d+1) (k:=n - (d+1)) (by omega) (by omega) (gd_mul gu gb) hf).1 (by rw [show d+1+(n - (d+1))=n by omega]; exact h1);obtain ⟨v,hv,hz⟩:=h2;have gv:=hr.gd _ _ _ (by omega) (by omega) hv;have gx':=gd_mul gx (gd_inv gu);have gz':=gd_mul (gd_mul gu gb) (gd_inv gv);have h3:=Sd.cons hr hd (by omega) (gd_mul gx' gz') (ih _ _ gx' gz' hx hz) hv
   have e:Ma.mulN (Ma.mulN (Ma.mulN x (Ma.invN u)) (Ma.mulN (Ma.mulN u b) (Ma.invN v))) v=Ma.mulN x b:=by
    rw [mul_assoc gx' gz',mul_inv_cancel (gd_mul gu gb) gv,← mul_assoc gx' gu,mul_inv_cancel gx gu]
   rwa [e] at h3
  have W:∀ e w,e≤d+1→Gd n w→Sd n tr e w→∀ x,Gd n x→Sd n tr (d+1) x→Sd n tr (d+1) (Ma.mulN x w):=by
   intro e
   induction e with
   | zero =>
    intro w _ gw hw x gx hx;have hw':w=Ma.oneN n:=hw;rw [hw',mul_one gx]; exact hx
   | succ e ie =>
    intro w he gw ⟨u,hu,hw⟩ x gx hx;have gu:=hr.gd _ _ _ (by omega) (by omega) hu;have gw':=gd_mul gw (gd_inv gu);have h1:=ie _ (by omega) gw' hw x gx hx;have h2:=R _ _ _ _ (gd_mul gx gw') h1 (by omega) (by omega) hu
    rwa [mul_assoc gx gw',mul_inv_cancel gw gu] at h2
  exact W _ z (Nat.le_refl _) gz hz y gy hy
theorem tab_isTr {n:Nat} {gs:List Nat→Prop} {tr:Tr} (hr:Rp n 0 tr) (hg:∀ s,gs s→Gd n s) (hs:∀ s,gs s→Sd n tr n s) (he:∀ i p u,i<n→tr i p=some u→Gr n gs u)
  (hc:∀ i p u j q v,i<n→j<n→tr i p=some u→tr j q=some v→Sd n tr n (Ma.mulN u v)):IsTr n (Gr n gs) tr:=by
 refine ⟨hr,he,fun i x hi hx=>?_⟩;have G:=Gr.isG (n:=n) hg;have gx:=G.gd x hx.1;have h1:Sd n tr n x:=gr_ind hg (P:=Sd n tr n) (Sd.one hr (Nat.le_refl _) (Nat.zero_le _)) (fun y s gy hy h=>tab_clos hr hc (Nat.le_refl _) _ _ (G.gd y gy) (hg s h) hy (hs s h)) hx.1;have h2:=(Sd.up hr (d:=n - i) (k:=i) (by omega) (Nat.zero_le _) gx (by rw [show n - (n - i)=i by omega]; exact hx.2)).1 (by rw [show n - i+i=n by omega]; exact h1);rw [show n - i=(n - i - 1)+1 by omega] at h2;obtain ⟨u,hu,_⟩:=h2;rw [show n - (n - i - 1+1)=i by omega] at hu;exact ⟨u,hu⟩
def lexLt (n:Nat) (y z:List Nat):Prop:=∃ j,j<n∧(∀ m,m<j→ap y m=ap z m)∧ap y j<ap z j
def Lst (n:Nat) (P:List Nat→Prop) (y:List Nat):Prop:=P y∧∀ z,P z→z=y∨lexLt n y z
theorem lexLt.asymm {m n:Nat} {y z:List Nat} (h:lexLt n y z) (h':lexLt m z y):False:=by
 obtain ⟨j,_,h2,h3⟩:=h;obtain ⟨k,_,h5,h6⟩:=h'
 rcases Nat.lt_trichotomy j k with e | e | e
 ·have:=h5 j e; omega
 ·subst e; omega
 ·have:=h2 k e; omega
theorem Lst.uniq {n:Nat} {P:List Nat→Prop} {y z:List Nat} (h:Lst n P y) (h':Lst n P z):y=z:=by
 rcases h.2 z h'.1 with e | e
 ·exact e.symm
 ·rcases h'.2 y h.1 with e' | e'
  ·exact e'
  ·exact (e.asymm e').elim
def LI (H:List Nat→Prop) (i k:Nat) (x y:List Nat):Prop :=
 (∃ h,St H (i+1) h∧y=Ma.mulN h x)∧∀ h,St H (i+1) h→(∀ m,m<k→ap y m=ap (Ma.mulN h x) m)∨∃ j,j<k∧(∀ m,m<j→ap y m=ap (Ma.mulN h x) m)∧ap y j<ap (Ma.mulN h x) j
theorem LI.start {n:Nat} {H:List Nat→Prop} (hH:IsG n H) {i:Nat} (hi:i<n) {x:List Nat} (gx:Gd n x):LI H i (i+1) x x:=by
 refine ⟨⟨Ma.oneN n,⟨hH.one,Fx.one (by omega)⟩,(one_mul gx).symm⟩,fun h hh=>.inl fun m hm=>?_⟩;rw [ap_mul (hH.gd h hh.1) (by omega),hh.2 m hm]
theorem LI.step {n:Nat} {H:List Nat→Prop} (hH:IsG n H) {tr:Tr} (ht:IsTr n H tr) {i k q:Nat} {x y u:List Nat} (gx:Gd n x) (hik:i<k) (hk:k<n) (h:LI H i k x y) (hu:tr k q=some u)
  (hq:∀ q',tr k q'≠none→ap y q≤ap y q'):LI H i (k+1) x (Ma.mulN u y):=by
 obtain ⟨⟨h0,hh0,rfl⟩,h2⟩:=h;have gu:=ht.rp.gd _ _ _ (Nat.zero_le _) hk hu;have fu:=ht.rp.fx _ _ _ (Nat.zero_le _) hk hu;have g0:=hH.gd h0 hh0.1;have gy:=gd_mul g0 gx
 have hlow:∀ m,m<k→ap (Ma.mulN u (Ma.mulN h0 x)) m=ap (Ma.mulN h0 x) m:=fun m hm=>by rw [ap_mul gu (by omega),fu m hm]
 refine ⟨⟨Ma.mulN u h0,⟨hH.mul _ _ (ht.mem _ _ _ hk hu) hh0.1,Fx.mul gu (by omega) (fu.mono (by omega)) hh0.2⟩,(mul_assoc gu g0).symm⟩,fun h hh=>?_⟩
 rcases h2 h hh with h3 | ⟨j,hj,h4,h5⟩
 ·have gh:=hH.gd h hh.1
  have gz:=gd_mul gh gx
  have fg:Fx k (Ma.mulN (Ma.mulN h x) (Ma.invN (Ma.mulN h0 x))):=fun m hm=>by
   rw [ap_mul gz (by omega),← h3 m hm,ap_inv gy (by omega)]
  have eg:Ma.mulN (Ma.mulN h x) (Ma.invN (Ma.mulN h0 x))=Ma.mulN h (Ma.invN h0):=by
   refine gd_ext (n:=n) (gd_mul gz (gd_inv gy)).2 (gd_mul gh (gd_inv g0)).2 fun m hm=>?_;rw [ap_mul gz hm,ap_mul gh hm,ap_mul gh hm];have h1:=ap_lt gh hm;have h2':=ap_lt (gd_inv g0) h1
   have e:ap x (ap h m)=ap (Ma.mulN h0 x) (ap (Ma.invN h0) (ap h m)):=by rw [ap_mul g0 h2',ap_inv2 g0 h1]
   rw [e,ap_inv gy h2']
  have hgH:St H k (Ma.mulN (Ma.mulN h x) (Ma.invN (Ma.mulN h0 x))):=⟨by rw [eg]; exact hH.mul _ _ hh.1 (hH.inv _ hh0.1),fg⟩;obtain ⟨v,hv⟩:=ht.all k _ hk hgH;have hle:=hq _ (by rw [hv]; simp)
  have ez:ap (Ma.mulN h0 x) (ap (Ma.mulN (Ma.mulN h x) (Ma.invN (Ma.mulN h0 x))) k)=ap (Ma.mulN h x) k:=by
   rw [ap_mul gz hk,ap_inv2 gy (ap_lt gz hk)]
  rw [ez] at hle
  have ey:ap (Ma.mulN u (Ma.mulN h0 x)) k=ap (Ma.mulN h0 x) q:=by rw [ap_mul gu hk,ht.rp.at_ _ _ _ (Nat.zero_le _) hk hu]
  rcases Nat.lt_or_eq_of_le hle with hlt | heq
  ·exact .inr ⟨k,by omega,fun m hm=>by rw [hlow m hm]; exact h3 m hm,by rw [ey]; exact hlt⟩
  ·exact .inl fun m hm=>by
    by_cases e:m=k
    ·subst e; rw [ey,heq]
    ·rw [hlow m (by omega)]; exact h3 m (by omega)
 ·exact .inr ⟨j,by omega,fun m hm=>by rw [hlow m (by omega)]; exact h4 m hm,by rw [hlow j hj]; exact h5⟩
theorem LI.done {n:Nat} {H:List Nat→Prop} (hH:IsG n H) {i:Nat} (hi:i<n) {x y:List Nat} (hx:St H i x) (h:LI H i n x y):Lst n (fun z=>St H i z∧ap z i=ap x i) y:=by
 obtain ⟨⟨h0,hh0,rfl⟩,h2⟩:=h;have gx:=hH.gd x hx.1;have g0:=hH.gd h0 hh0.1;refine ⟨⟨⟨hH.mul _ _ hh0.1 hx.1,Fx.mul g0 (by omega) (hh0.2.mono (by omega)) hx.2⟩,by rw [ap_mul g0 hi,hh0.2 i (by omega)]⟩,fun z ⟨hz,hzi⟩=>?_⟩;have gz:=hH.gd z hz.1
 have hf:Fx (i+1) (Ma.mulN z (Ma.invN x)):=fun m hm=>by
  rw [ap_mul gz (by omega)]
  by_cases e:m=i
  ·subst e; rw [hzi,ap_inv gx hi]
  ·rw [hz.2 m (by omega)]
   have:=ap_inv gx (show m<n by omega)
   rwa [hx.2 m (by omega)] at this
 have e:=mul_inv_cancel gz gx
 rcases h2 _ ⟨hH.mul _ _ hz.1 (hH.inv _ hx.1),hf⟩ with h3 | h3
 ·rw [e] at h3
  exact .inl (gd_ext (n:=n) gz.2 (gd_mul g0 gx).2 fun m hm=>(h3 m hm).symm)
 ·rw [e] at h3
  obtain ⟨j,hj,h4,h5⟩:=h3;exact .inr ⟨j,hj,h4,h5⟩
structure IsChain (n:Nat) (H:List Nat→Prop) (O:List (List Nat)) (R:List (List (List Nat))):Prop where
 lenO:O.length=n
 lenR:R.length=n
 asc:∀ i,i<n→(O.getD i []).Pairwise (· < ·)
 orb:∀ i p,i<n→(p∈O.getD i []↔∃ x,St H i x∧ap x i=p)
 len:∀ i,i<n→(R.getD i []).length=(O.getD i []).length
 rep:∀ i k,i<n→k<(O.getD i []).length→Lst n (fun z=>St H i z∧ap z i=(O.getD i []).getD k 0) ((R.getD i []).getD k [])
theorem asc_uniq:∀ {l l':List Nat},l.Pairwise (· < ·)→l'.Pairwise (· < ·)→(∀ x,x∈l↔x∈l')→l=l'
 | [],[],_,_,_=>rfl
 | [],y :: l',_,_,h=>by have:=(h y).2 (List.mem_cons_self ..); simp at this
 | x :: l,[],_,_,h=>by have:=(h x).1 (List.mem_cons_self ..); simp at this
 | x :: l,y :: l',h1,h2,h=>by
  rw [List.pairwise_cons] at h1 h2;have hx:=(h x).1 (List.mem_cons_self ..);have hy:=(h y).2 (List.mem_cons_self ..)
  have e:x=y:=by
   rcases List.mem_cons.1 hx with e | e
   ·exact e
   ·rcases List.mem_cons.1 hy with e' | e'
    ·exact e'.symm
    ·have:=h1.1 y e'; have:=h2.1 x e; omega
  subst e
  rw [asc_uniq h1.2 h2.2 fun z=>⟨fun hz=>by
   rcases List.mem_cons.1 ((h z).1 (List.mem_cons_of_mem _ hz)) with e | e
   ·subst e; have:=h1.1 z hz; omega
   ·exact e,fun hz=>by
   rcases List.mem_cons.1 ((h z).2 (List.mem_cons_of_mem _ hz)) with e | e
   ·subst e; have:=h2.1 z hz; omega
   ·exact e⟩]
theorem getD_in {α:Type} {l:List α} {i:Nat} (h:i<l.length) (d:α):l.getD i d=l[i]:=by rw [List.getD,List.getElem?_eq_getElem h]; rfl
theorem IsChain.uniq {n:Nat} {H:List Nat→Prop} {O O':List (List Nat)} {R R':List (List (List Nat))} (h:IsChain n H O R) (h':IsChain n H O' R'):O=O'∧R=R':=by
 have hO:O=O':=by
  apply List.ext_getElem (by rw [h.lenO,h'.lenO])
  intro i h1 h2
  have hi:i<n:=by rw [← h.lenO]; exact h1
  have e1:O.getD i []=O[i]:=by simp [List.getD,List.getElem?_eq_getElem h1]
  have e2:O'.getD i []=O'[i]:=by simp [List.getD,List.getElem?_eq_getElem h2]
  rw [← e1,← e2];exact asc_uniq (h.asc i hi) (h'.asc i hi) fun p=>(h.orb i p hi).trans (h'.orb i p hi).symm
 subst hO;refine ⟨rfl,?_⟩
 apply List.ext_getElem (by rw [h.lenR,h'.lenR])
 intro i h1 h2
 have hi:i<n:=by rw [← h.lenR]; exact h1
 have e1:R.getD i []=R[i]:=by simp [List.getD,List.getElem?_eq_getElem h1]
 have e2:R'.getD i []=R'[i]:=by simp [List.getD,List.getElem?_eq_getElem h2]
 rw [← e1,← e2]
 apply List.ext_getElem (by rw [h.len i hi,h'.len i hi])
 intro k k1 k2
 have hk:k<(O.getD i []).length:=by rw [← h.len i hi]; exact k1
 have f1:(R.getD i []).getD k []=(R.getD i [])[k]:=getD_in k1 _;have f2:(R'.getD i []).getD k []=(R'.getD i [])[k]:=getD_in k2 _;rw [← f1,← f2];exact (h.rep i k hi hk).uniq (h'.rep i k hi hk)

def sfP (n:Nat) (tr:Tr):Nat→List Nat→Nat × List Nat
 | 0,x=>(n,x)
 | d+1,x=>match tr (n - (d+1)) (ap x (n - (d+1))) with
  | none=>(n - (d+1),x)
  | some u=>sfP n tr d (Ma.mulN x (Ma.invN u))
theorem sfP_none {n:Nat} {tr:Tr} {d:Nat} {x:List Nat} (h:tr (n - (d+1)) (ap x (n - (d+1)))=none):sfP n tr (d+1) x=(n - (d+1),x):=by
 unfold sfP; rw [h]
theorem sfP_some {n:Nat} {tr:Tr} {d:Nat} {x u:List Nat} (h:tr (n - (d+1)) (ap x (n - (d+1)))=some u):sfP n tr (d+1) x=sfP n tr d (Ma.mulN x (Ma.invN u)):=by
 conv=>lhs; unfold sfP
 rw [h]
theorem step_fx {n lo:Nat} {tr:Tr} (hr:Rp n lo tr) {i:Nat} (hl:lo≤i) (hi:i<n) {x u:List Nat} (gx:Gd n x) (fx:Fx i x) (hu:tr i (ap x i)=some u):Gd n (Ma.mulN x (Ma.invN u))∧Fx (i+1) (Ma.mulN x (Ma.invN u)):=by
 have gu:=hr.gd _ _ _ hl hi hu;have fu:=hr.fx _ _ _ hl hi hu;have au:=hr.at_ _ _ _ hl hi hu;refine ⟨gd_mul gx (gd_inv gu),fun j hj=>?_⟩;rw [ap_mul gx (by omega)]
 by_cases e:j=i
 ·subst e; rw [← au]; exact ap_inv gu hi
 ·rw [fx j (by omega)]
  exact Fx.inv gu (by omega) fu j (by omega)
theorem sfP_all {n lo:Nat} {tr:Tr} (hr:Rp n lo tr):∀ {d:Nat} {x:List Nat},d≤n→lo≤n - d→Gd n x→Fx (n - d) x →
  (sfP n tr d x).1≤n∧n - d≤(sfP n tr d x).1∧Gd n (sfP n tr d x).2∧Fx (sfP n tr d x).1 (sfP n tr d x).2∧((sfP n tr d x).1<n→tr (sfP n tr d x).1 (ap (sfP n tr d x).2 (sfP n tr d x).1)=none)
 | 0,x,_,_,gx,fx=>⟨Nat.le_refl _,by show n - 0≤n; omega,gx,fx,fun h=>absurd h (Nat.lt_irrefl _)⟩
 | d+1,x,hd,hl,gx,fx=>by
  cases h:tr (n - (d+1)) (ap x (n - (d+1))) with
  | none =>
   rw [sfP_none h];exact ⟨by show n - (d+1)≤n; omega,Nat.le_refl _,gx,fx,fun _=>h⟩
  | some u =>
   rw [sfP_some h];obtain ⟨g1,f1⟩:=step_fx hr hl (by omega) gx fx h;rw [show n - (d+1)+1=n - d by omega] at f1;obtain ⟨a,b,c⟩:=sfP_all hr (d:=d) (by omega) (by omega) g1 f1;exact ⟨a,by omega,c⟩
theorem sfP_back {n:Nat} {tr tr':Tr}:∀ {d:Nat} {x:List Nat},d≤n→(∀ i p u,n - d≤i→tr i p=some u→tr' i p=some u)→Sd n tr' (n - (sfP n tr d x).1) (sfP n tr d x).2→Sd n tr' d x
 | 0,x,_,_,h=>by
  have:Sd n tr' (n - n) x:=h
  rwa [Nat.sub_self] at this
 | d+1,x,hd,hm,hs=>by
  cases h:tr (n - (d+1)) (ap x (n - (d+1))) with
  | none =>
   rw [sfP_none h] at hs;have:Sd n tr' (n - (n - (d+1))) x:=hs
   rwa [show n - (n - (d+1))=d+1 by omega] at this
  | some u =>
   rw [sfP_some h] at hs;exact ⟨u,hm _ _ _ (Nat.le_refl _) h,sfP_back (by omega) (fun i p u hi=>hm i p u (by omega)) hs⟩
theorem sfP_mem {n:Nat} {tr:Tr} {H:List Nat→Prop} (hH:IsG n H):∀ {d:Nat} {x:List Nat},d≤n→(∀ i p u,n - d≤i→i<n→tr i p=some u→H u)→H x→H (sfP n tr d x).2
 | 0,_,_,_,h=>h
 | d+1,x,hd,hm,hx=>by
  cases h:tr (n - (d+1)) (ap x (n - (d+1))) with
  | none=>rw [sfP_none h]; exact hx
  | some u =>
   rw [sfP_some h];exact sfP_mem hH (by omega) (fun i p u hi=>hm i p u (by omega)) (hH.mul _ _ hx (hH.inv _ (hm _ _ _ (Nat.le_refl _) (by omega) h)))
structure Lv where
 gens:List (List Nat)
 orb:List Nat
 rep:Nat→Option (List Nat)
 tried:Nat→Nat
abbrev Twr:=Nat→Lv
def trOf (T:Twr):Tr:=fun i p=>(T i).rep p
structure Lvl (n:Nat) (T:Twr) (i:Nat):Prop where
 ggd:∀ s∈(T i).gens,Gd n s
 gfx:∀ s∈(T i).gens,Fx i s
 low:i+1<n→∀ s∈(T (i+1)).gens,Gr n (·∈(T i).gens) s
 self:(T i).rep i=some (Ma.oneN n)
 tgd:∀ p u,(T i).rep p=some u→Gd n u
 tfx:∀ p u,(T i).rep p=some u→Fx i u
 tat:∀ p u,(T i).rep p=some u→ap u i=p
 tlt:∀ p u,(T i).rep p=some u→p<n
 tgr:∀ p u,(T i).rep p=some u→Gr n (·∈(T i).gens) u
 nd:(T i).orb.Nodup
 orb:∀ p,p∈(T i).orb↔∃ u,(T i).rep p=some u
 le:∀ q,(T i).tried q≤(T i).gens.length
 tr0:∀ p,(T i).rep p=none→(T i).tried p=0
 pr:∀ q u k (hk:k<(T i).gens.length),(T i).rep q=some u→k<(T i).tried q→∃ v,(T i).rep (ap (T i).gens[k] q)=some v∧Sd n (trOf T) (n - (i+1)) (Ma.mulN (Ma.mulN u (T i).gens[k]) (Ma.invN v))
def Cmp (T:Twr) (i:Nat):Prop:=∀ q u,(T i).rep q=some u→(T i).tried q=(T i).gens.length
theorem Lvl.rp {n lo:Nat} {T:Twr} (h:∀ j,lo≤j→j<n→Lvl n T j):Rp n lo (trOf T) :=
 ⟨fun i p u hl hi hu=>(h i hl hi).tgd p u hu,fun i p u hl hi hu=>(h i hl hi).tfx p u hu,fun i p u hl hi hu=>(h i hl hi).tat p u hu,fun i hl hi=>(h i hl hi).self⟩
theorem Lvl.tow {n lo:Nat} {T:Twr} (h:∀ j,lo≤j→j<n→Lvl n T j∧Cmp T j):Tow n lo (fun i s=>s∈(T i).gens) (trOf T):=by
 refine ⟨Lvl.rp fun j a b=>(h j a b).1,fun i s a b=>(h i a b).1.ggd s,fun i s a b=>(h i a (by omega)).1.low b s,fun i p u a b hu=>(h i a b).1.tgr p u hu,fun i p u s a b hu hs=>?_⟩;obtain ⟨k,hk,rfl⟩:=List.getElem_of_mem hs;exact (h i a b).1.pr p u k hk hu (by rw [(h i a b).2 p u hu]; exact hk)
theorem Lvl.sd {n lo:Nat} {T:Twr} (h:∀ j,lo≤j→j<n→Lvl n T j∧Cmp T j) (hl:lo<n) {x:List Nat} (hx:Gr n (·∈(T lo).gens) x):Sd n (trOf T) (n - lo) x:=by
 have:=((Lvl.tow h).clos (d:=n - lo) (by omega) (by omega)).2 (by omega) x;rw [show n - (n - lo)=lo by omega] at this;exact this hx
structure Ext (T T':Twr):Prop where
 rep:∀ j p u,(T j).rep p=some u→(T' j).rep p=some u
 orb:∀ j,(T j).orb.length≤(T' j).orb.length
 gens:∀ j s,s∈(T j).gens→s∈(T' j).gens
theorem Ext.refl (T:Twr):Ext T T:=⟨fun _ _ _ h=>h,fun _=>Nat.le_refl _,fun _ _ h=>h⟩
theorem Ext.trans {T T' T'':Twr} (h:Ext T T') (h':Ext T' T''):Ext T T'':=⟨fun j p u e=>h'.rep j p u (h.rep j p u e),fun j=>Nat.le_trans (h.orb j) (h'.orb j),fun j s e=>h'.gens j s (h.gens j s e)⟩
theorem Lvl.ext0 {n i:Nat} {T T':Twr} (h:Lvl n T i) (he:T' i=T i) (hx:∀ j p u,(T j).rep p=some u→(T' j).rep p=some u) (hlow:i+1<n→∀ s∈(T' (i+1)).gens,Gr n (·∈(T i).gens) s):Lvl n T' i:=by
 refine ⟨by rw [he]; exact h.ggd,by rw [he]; exact h.gfx,by rw [he]; exact hlow,by rw [he]; exact h.self,by rw [he]; exact h.tgd,by rw [he]; exact h.tfx,by rw [he]; exact h.tat,by rw [he]; exact h.tlt,by rw [he]; exact h.tgr,by rw [he]; exact h.nd,by rw [he]; exact h.orb,by rw [he]; exact h.le,by rw [he]; exact h.tr0,?_⟩;simp only [he];intro q u k hk hu hq;obtain ⟨v,h1,h2⟩:=h.pr q u k hk hu hq;exact ⟨v,h1,Sd.mono (fun j p u _ e=>hx j p u e) h2⟩
theorem Lvl.ext {n i:Nat} {T T':Twr} (h:Lvl n T i) (he:T' i=T i) (hx:Ext T T') (hlow:i+1<n→∀ s∈(T' (i+1)).gens,Gr n (·∈(T i).gens) s):Lvl n T' i:=h.ext0 he hx.rep hlow
theorem Cmp.ext {i:Nat} {T T':Twr} (h:Cmp T i) (he:T' i=T i):Cmp T' i:=by
 unfold Cmp at *; rw [he]; exact h
def potd (n:Nat) (T:Twr):Nat→Nat
 | 0=>0
 | d+1=>(T (n - (d+1))).orb.length+potd n T d
def pot (n:Nat) (T:Twr) (i:Nat):Nat:=potd n T (n - i)
theorem potd_mono {n:Nat} {T T':Twr} (h:Ext T T'):∀ d,potd n T d≤potd n T' d
 | 0=>Nat.le_refl _
 | d+1=>Nat.add_le_add (h.orb _) (potd_mono h d)
theorem potd_more {n:Nat} {T T':Twr} (h:Ext T T') {i:Nat} (hi:i<n) (hlt:(T i).orb.length<(T' i).orb.length):∀ d,d≤n→n - i≤d→potd n T d<potd n T' d
 | 0,_,hd=>by omega
 | d+1,hdn,hd=>by
  by_cases e:n - i=d+1
  ·have:n - (d+1)=i:=by omega
   show (T (n - (d+1))).orb.length+potd n T d<(T' (n - (d+1))).orb.length+potd n T' d;rw [this];exact Nat.add_lt_add_of_lt_of_le hlt (potd_mono h d)
  ·exact Nat.add_lt_add_of_le_of_lt (h.orb _) (potd_more h hi hlt d (by omega) (by omega))
theorem pot_mono {n:Nat} {T T':Twr} (h:Ext T T') (i:Nat):pot n T i≤pot n T' i:=potd_mono h _
theorem pot_more {n:Nat} {T T':Twr} (h:Ext T T') {i j:Nat} (hi:i<n) (hj:j≤i) (hlt:(T i).orb.length<(T' i).orb.length):pot n T j<pot n T' j:=potd_more h hi hlt _ (by omega) (by omega)
theorem orb_len {n i:Nat} {T:Twr} (h:Lvl n T i):(T i).orb.length≤n:=by
 have h1:(T i).orb ⊆ List.range n:=fun p hp=>by
  obtain ⟨u,hu⟩:=(h.orb p).1 hp;exact List.mem_range.2 (h.tlt p u hu)
 have:=List.Nodup.length_le_of_subset h.nd h1
 rwa [List.length_range] at this
theorem potd_le {n lo:Nat} {T:Twr} (h:∀ j,lo≤j→j<n→Lvl n T j):∀ d,d≤n→lo≤n - d→potd n T d≤d*n
 | 0,_,_=>by simp [potd]
 | d+1,hd,hl=>by
  have h1:=orb_len (h (n - (d+1)) hl (by omega));have h2:=potd_le h d (by omega) (by omega);show _+_≤_;rw [Nat.succ_mul]; omega
theorem pot_le {n lo:Nat} {T:Twr} (h:∀ j,lo≤j→j<n→Lvl n T j) {i:Nat} (hi:lo≤i) (hn:n≤64):pot n T i≤4096:=by
 by_cases hin:i≤n
 ·have h1:=potd_le h (n - i) (by omega) (by omega)
  have h2:(n - i)*n≤64*64:=Nat.mul_le_mul (by omega) hn;unfold pot; omega
 ·unfold pot; rw [show n - i=0 by omega]; simp [potd]
def putG (T:Twr) (lo hi:Nat) (r:List Nat):Twr:=fun j=>if lo≤j∧j≤hi then { T j with gens:=(T j).gens++[r] } else T j
theorem putG_in {T:Twr} {lo hi:Nat} {r:List Nat} {j:Nat} (h:lo≤j∧j≤hi):putG T lo hi r j={ T j with gens:=(T j).gens++[r] }:=if_pos h
theorem putG_out {T:Twr} {lo hi:Nat} {r:List Nat} {j:Nat} (h:¬ (lo≤j∧j≤hi)):putG T lo hi r j=T j:=if_neg h
theorem putG_to (T:Twr) (lo hi:Nat) (r:List Nat):trOf (putG T lo hi r)=trOf T:=by
 funext j p
 unfold trOf
 by_cases h:lo≤j∧j≤hi
 ·rw [putG_in h]
 ·rw [putG_out h]
theorem putG_orb (T:Twr) (lo hi:Nat) (r:List Nat) (j:Nat):(putG T lo hi r j).orb=(T j).orb:=by
 by_cases h:lo≤j∧j≤hi
 ·rw [putG_in h]
 ·rw [putG_out h]
theorem putG_ext (T:Twr) (lo hi:Nat) (r:List Nat):Ext T (putG T lo hi r) :=
 ⟨fun j p u h=>(show trOf (putG T lo hi r) j p=some u by rw [putG_to]; exact h),fun j=>by rw [putG_orb]; exact Nat.le_refl _,fun j s hs=>by
  by_cases h:lo≤j∧j≤hi
  ·rw [putG_in h]; exact List.mem_append_left _ hs
  ·rw [putG_out h]; exact hs⟩
theorem putG_lvl {n lo hi i:Nat} {T:Twr} {r:List Nat} (h:Lvl n T i) (hl:lo≤i) (hr:Gd n r) (hf:Fx hi r):Lvl n (putG T lo hi r) i:=by
 have hto:=fun p=>congrFun (congrFun (putG_to T lo hi r) i) p;have hto':∀ p,(putG T lo hi r i).rep p=(T i).rep p:=hto
 by_cases hi2:i≤hi
 ·have e:=putG_in (T:=T) (r:=r) ⟨hl,hi2⟩
  have hg:∀ s,s∈(T i).gens→s∈(putG T lo hi r i).gens:=fun s hs=>by rw [e]; exact List.mem_append_left _ hs
  have hm:∀ s,s∈(putG T lo hi r i).gens→s∈(T i).gens∨s=r:=fun s hs=>by
   rw [e] at hs
   rcases List.mem_append.1 hs with hs | hs
   ·exact .inl hs
   ·exact .inr (List.mem_singleton.1 hs)
  have hrm:r∈(putG T lo hi r i).gens:=by rw [e]; exact List.mem_append_right _ (List.mem_singleton.2 rfl)
  refine ⟨fun s hs=>?_,fun s hs=>?_,fun h1 s hs=>?_,by rw [hto']; exact h.self,fun p u hu=>h.tgd p u (by rwa [hto'] at hu),fun p u hu=>h.tfx p u (by rwa [hto'] at hu),fun p u hu=>h.tat p u (by rwa [hto'] at hu),fun p u hu=>h.tlt p u (by rwa [hto'] at hu),
   fun p u hu=>(h.tgr p u (by rwa [hto'] at hu)).mono hg,by rw [putG_orb]; exact h.nd,fun p=>by rw [putG_orb,hto']; exact h.orb p,fun q=>?_,fun p hp=>by rw [hto'] at hp; rw [e]; exact h.tr0 p hp,?_⟩
  ·rcases hm s hs with hs | rfl
   ·exact h.ggd s hs
   ·exact hr
  ·rcases hm s hs with hs | rfl
   ·exact h.gfx s hs
   ·exact hf.mono hi2
  ·by_cases h2:i+1≤hi
   ·rw [putG_in ⟨by omega,h2⟩] at hs
    rcases List.mem_append.1 hs with hs | hs
    ·exact (h.low h1 s hs).mono hg
    ·rw [List.mem_singleton] at hs; subst hs; exact .gen _ hrm
   ·rw [putG_out (by omega)] at hs
    exact (h.low h1 s hs).mono hg
  ·have:=h.le q
   rw [e]; simp; omega
  ·intro q u k hk hu hq
   rw [hto'] at hu
   have hq':k<(T i).tried q:=by rw [e] at hq; exact hq
   have hk':k<(T i).gens.length:=Nat.lt_of_lt_of_le hq' (h.le q)
   have eg:(putG T lo hi r i).gens[k]=(T i).gens[k]:=by simp only [e]; rw [List.getElem_append_left hk']
   obtain ⟨v,h1,h2⟩:=h.pr q u k hk' hu hq';rw [eg];exact ⟨v,by rw [hto']; exact h1,by rw [putG_to]; exact h2⟩
 ·exact h.ext (putG_out (by omega)) (putG_ext T lo hi r) fun h1 s hs=>by
   rw [putG_out (by omega)] at hs; exact h.low h1 s hs
def tick (T:Twr) (i q:Nat):Twr:=fun j=>if j=i then { T j with tried:=fun p=>if p=q then (T j).tried p+1 else (T j).tried p } else T j
def find (T:Twr) (i p:Nat) (y:List Nat):Twr:=fun j=>if j=i then { T j with orb:=(T j).orb++[p],rep:=fun z=>if z=p then some y else (T j).rep z } else T j
theorem tick_at (T:Twr) (i q:Nat):tick T i q i={ T i with tried:=fun p=>if p=q then (T i).tried p+1 else (T i).tried p }:=if_pos rfl
theorem tick_ne {T:Twr} {i q j:Nat} (h:j≠i):tick T i q j=T j:=if_neg h
theorem find_at' (T:Twr) (i p:Nat) (y:List Nat):find T i p y i={ T i with orb:=(T i).orb++[p],rep:=fun z=>if z=p then some y else (T i).rep z }:=if_pos rfl
theorem find_ne {T:Twr} {i p j:Nat} {y:List Nat} (h:j≠i):find T i p y j=T j:=if_neg h
theorem tick_ext (T:Twr) (i q:Nat):Ext T (tick T i q) :=
 ⟨fun j p u h=>by
  by_cases e:j=i
  ·subst e; rw [tick_at]; exact h
  ·rw [tick_ne e]; exact h,fun j=>by
  by_cases e:j=i
  ·subst e; rw [tick_at]; exact Nat.le_refl _
  ·rw [tick_ne e]; exact Nat.le_refl _,fun j s hs=>by
  by_cases e:j=i
  ·subst e; rw [tick_at]; exact hs
  ·rw [tick_ne e]; exact hs⟩
theorem find_ext {T:Twr} {i p:Nat} {y:List Nat} (hp:(T i).rep p=none):Ext T (find T i p y) :=
 ⟨fun j z u h=>by
  by_cases e:j=i
  ·subst e
   rw [find_at'];show (if z=p then some y else (T j).rep z)=some u;rw [if_neg,h];rintro rfl; rw [hp] at h; cases h
  ·rw [find_ne e]; exact h,fun j=>by
  by_cases e:j=i
  ·subst e; rw [find_at']; simp
  ·rw [find_ne e]; exact Nat.le_refl _,fun j s hs=>by
  by_cases e:j=i
  ·subst e; rw [find_at']; exact hs
  ·rw [find_ne e]; exact hs⟩
theorem tick_lvl {n i q:Nat} {T T':Twr} (h:Lvl n T i) {s uq v:List Nat} (hk:(T i).tried q<(T i).gens.length) (hs:(T i).gens[(T i).tried q]=s) (huq:(T i).rep q=some uq)
  (hi:T' i=tick T i q i) (hx:Ext T T') (hlow:i+1<n→∀ s∈(T' (i+1)).gens,Gr n (·∈(T i).gens) s) (hv:(T i).rep (ap s q)=some v) (hsd:Sd n (trOf T') (n - (i+1)) (Ma.mulN (Ma.mulN uq s) (Ma.invN v))):Lvl n T' i:=by
 rw [tick_at] at hi;refine ⟨by rw [hi]; exact h.ggd,by rw [hi]; exact h.gfx,by rw [hi]; exact hlow,by rw [hi]; exact h.self,by rw [hi]; exact h.tgd,by rw [hi]; exact h.tfx,by rw [hi]; exact h.tat,by rw [hi]; exact h.tlt,by rw [hi]; exact h.tgr,by rw [hi]; exact h.nd,by rw [hi]; exact h.orb,?_,?_,?_⟩
 ·rw [hi]
  intro p;show (if p=q then (T i).tried p+1 else (T i).tried p)≤(T i).gens.length
  split
  ·rename_i e; subst e; omega
  ·exact h.le p
 ·rw [hi]
  intro p hp;show (if p=q then (T i).tried p+1 else (T i).tried p)=0;rw [if_neg]
  ·exact h.tr0 p hp
  ·rintro rfl
   have hp':(T i).rep p=none:=hp;rw [huq] at hp'; cases hp'
 ·simp only [hi]
  intro p u k hk2 hu hp
  by_cases e:p=q
  ·subst e
   rw [if_pos rfl] at hp
   by_cases e2:k=(T i).tried p
   ·subst e2
    rw [huq] at hu; cases hu;rw [hs]; exact ⟨v,hv,hsd⟩
   ·obtain ⟨v2,h1,h2⟩:=h.pr p u k hk2 hu (by omega)
    exact ⟨v2,h1,Sd.mono (fun j p u _ e=>hx.rep j p u e) h2⟩
  ·rw [if_neg e] at hp
   obtain ⟨v2,h1,h2⟩:=h.pr p u k hk2 hu hp;exact ⟨v2,h1,Sd.mono (fun j p u _ e=>hx.rep j p u e) h2⟩
theorem find_lvl {n i q:Nat} {T:Twr} (h:∀ j,i≤j→j<n→Lvl n T j) (hin:i<n) {s uq:List Nat} (hk:(T i).tried q<(T i).gens.length) (hs:(T i).gens[(T i).tried q]=s) (huq:(T i).rep q=some uq) (hp:(T i).rep (ap s q)=none) :
  Lvl n (find (tick T i q) i (ap s q) (Ma.mulN uq s)) i:=by
 have hl:=h i (Nat.le_refl _) hin
 have hsm:s∈(T i).gens:=by rw [← hs]; exact List.getElem_mem hk
 have gs:=hl.ggd s hsm;have gu:=hl.tgd q uq huq;have hq:=hl.tlt q uq huq;have gy:=gd_mul gu gs;have hx:Ext T (find (tick T i q) i (ap s q) (Ma.mulN uq s)):=(tick_ext T i q).trans (find_ext (by rw [tick_at]; exact hp))
 have ei:find (tick T i q) i (ap s q) (Ma.mulN uq s) i={ gens:=(T i).gens,orb:=(T i).orb++[ap s q],rep:=fun z=>if z=ap s q then some (Ma.mulN uq s) else (T i).rep z,tried:=fun p=>if p=q then (T i).tried p+1 else (T i).tried p }:=by rw [find_at',tick_at]
 have ay:ap (Ma.mulN uq s) i=ap s q:=by rw [ap_mul gu hin,hl.tat q uq huq]
 have fy:Fx i (Ma.mulN uq s):=Fx.mul gu (by omega) (hl.tfx q uq huq) (hl.gfx s hsm);refine ⟨by rw [ei]; exact hl.ggd,by rw [ei]; exact hl.gfx,?_,?_,?_,?_,?_,?_,?_,?_,?_,?_,?_,?_⟩
 ·rw [ei]
  intro h1 z hz;rw [find_ne (by omega),tick_ne (by omega)] at hz;exact hl.low h1 z hz
 ·rw [ei]
  show (if i=ap s q then _ else _)=_;rw [if_neg,hl.self];intro e; rw [← e,hl.self] at hp; cases hp
 ·rw [ei]
  intro p u hu;have hu':(if p=ap s q then some (Ma.mulN uq s) else (T i).rep p)=some u:=hu
  split at hu'
  ·cases hu'; exact gy
  ·exact hl.tgd p u hu'
 ·rw [ei]
  intro p u hu;have hu':(if p=ap s q then some (Ma.mulN uq s) else (T i).rep p)=some u:=hu
  split at hu'
  ·cases hu'; exact fy
  ·exact hl.tfx p u hu'
 ·rw [ei]
  intro p u hu;have hu':(if p=ap s q then some (Ma.mulN uq s) else (T i).rep p)=some u:=hu
  split at hu'
  ·rename_i e; cases hu'; rw [e]; exact ay
  ·exact hl.tat p u hu'
 ·rw [ei]
  intro p u hu;have hu':(if p=ap s q then some (Ma.mulN uq s) else (T i).rep p)=some u:=hu
  split at hu'
  ·rename_i e; rw [e]; exact ap_lt gs hq
  ·exact hl.tlt p u hu'
 ·rw [ei]
  intro p u hu;have hu':(if p=ap s q then some (Ma.mulN uq s) else (T i).rep p)=some u:=hu
  split at hu'
  ·cases hu'; exact .mul _ _ (hl.tgr q uq huq) (.gen _ hsm)
  ·exact hl.tgr p u hu'
 ·rw [ei]
  show ((T i).orb++[ap s q]).Nodup;rw [List.nodup_append];refine ⟨hl.nd,by simp,?_⟩;intro a ha b hb e;rw [List.mem_singleton] at hb;subst hb; subst e;obtain ⟨u,hu⟩:=(hl.orb _).1 ha;rw [hp] at hu; cases hu
 ·rw [ei]
  intro p;show p∈(T i).orb++[ap s q]↔∃ u,(if p=ap s q then some (Ma.mulN uq s) else (T i).rep p)=some u;rw [List.mem_append,List.mem_singleton]
  by_cases e:p=ap s q
  ·rw [if_pos e]; exact ⟨fun _=>⟨_,rfl⟩,fun _=>.inr e⟩
  ·rw [if_neg e,← hl.orb p]; exact ⟨fun h=>h.resolve_right e,.inl⟩
 ·rw [ei]
  intro p;show (if p=q then (T i).tried p+1 else (T i).tried p)≤(T i).gens.length
  split
  ·rename_i e; subst e; omega
  ·exact hl.le p
 ·rw [ei]
  intro p hp2;have hp3:(if p=ap s q then some (Ma.mulN uq s) else (T i).rep p)=none:=hp2;show (if p=q then (T i).tried p+1 else (T i).tried p)=0
  split at hp3
  ·cases hp3
  ·rw [if_neg]
   ·exact hl.tr0 p hp3
   ·rintro rfl; rw [huq] at hp3; cases hp3
 ·intro p u k hk0 hu hpk
  have hk2:k<(T i).gens.length:=by rw [ei] at hk0; exact hk0
  simp only [ei] at hu hpk ⊢
  have hto:∀ z v,(T i).rep z=some v→(if z=ap s q then some (Ma.mulN uq s) else (T i).rep z)=some v:=fun z v hz=>by
   rw [if_neg,hz];rintro rfl; rw [hp] at hz; cases hz
  have hold:∀ p u k (hk2:k<(T i).gens.length),(T i).rep p=some u→k<(T i).tried p→∃ v,(if ap (T i).gens[k] p=ap s q then some (Ma.mulN uq s) else (T i).rep (ap (T i).gens[k] p))=some v∧Sd n (trOf (find (tick T i q) i (ap s q) (Ma.mulN uq s))) (n - (i+1)) (Ma.mulN (Ma.mulN u (T i).gens[k]) (Ma.invN v)):=fun p u k hk2 hu hpk=>by
   obtain ⟨v,h1,h2⟩:=hl.pr p u k hk2 hu hpk;exact ⟨v,hto _ _ h1,Sd.mono (fun j p u _ e=>hx.rep j p u e) h2⟩
  by_cases e:p=ap s q
  ·
   rw [if_pos e] at hu
   exfalso
   by_cases e2:p=q
   ·rw [← e2,e,hp] at huq; cases huq
   ·rw [if_neg e2] at hpk
    have:=hl.tr0 p (by rw [e]; exact hp);omega
  ·rw [if_neg e] at hu
   by_cases e2:p=q
   ·subst e2
    rw [if_pos rfl] at hpk
    by_cases e3:k=(T i).tried p
    ·subst e3
     rw [huq] at hu; cases hu;rw [hs,if_pos rfl];refine ⟨_,rfl,?_⟩;rw [mul_inv gy];have hr:Rp n (i+1) (trOf T):=Lvl.rp fun j a b=>h j (by omega) b;exact Sd.mono (fun j p u _ e=>hx.rep j p u e) (Sd.one hr (by omega) (by omega))
    ·exact hold p u k hk2 hu (by omega)
   ·rw [if_neg e2] at hpk
    exact hold p u k hk2 hu hpk
end Go.Proofs.Cm

namespace Go.Proofs.YthehbckogieimaaGreat
open Go.RowKit
open Go.Proofs
attribute [local irreducible] Go.Calls
theorem b_lss {w:World} {u v:Int} {b:Bool} (t:TypeId) (h:decide (u<v)=b):(binOp .lss t (.int .i64 u) (.int .i64 v)).run Tryz.prog w=.ok (.bool b) w:=by
 subst h;simp [binOp,Op.intCmp]
theorem b_leq {w:World} {u v:Int} {b:Bool} (t:TypeId) (h:decide (u≤v)=b):(binOp .leq t (.int .i64 u) (.int .i64 v)).run Tryz.prog w=.ok (.bool b) w:=by
 subst h;simp [binOp,Op.intCmp]
theorem b_neqB {w:World} {u v:Int} {b:Bool} (t:TypeId) (h:decide (u≠v)=b):(binOp .neq t (.int .i64 u) (.int .i64 v)).run Tryz.prog w=.ok (.bool b) w:=by
 subst h
 by_cases e:u=v <;> simp [binOp,Op.intCmp,e]
def GI (w:World) (b:Nat) (d:Int) (a:Option Addr) (ll:List (List Int)) (c:Nat):Prop :=
 w.cell? ⟨b,0,none⟩=some (.int .i64 d)∧w.cell? ⟨b,1,none⟩=some (.slice a ll.length c)∧Rg.Rows w (.slice a ll.length c) ll∧b<w.heap.size
theorem GI.c0 {w:World} {b:Nat} {d:Int} {a:Option Addr} {ll:List (List Int)} {c:Nat} (h:GI w b d a ll c):w.cell? ⟨b,0,none⟩=some (.int .i64 d):=h.1
theorem GI.c1 {w:World} {b:Nat} {d:Int} {a:Option Addr} {ll:List (List Int)} {c:Nat} (h:GI w b d a ll c):w.cell? ⟨b,1,none⟩=some (.slice a ll.length c):=h.2.1
theorem GI.rows {w:World} {b:Nat} {d:Int} {a:Option Addr} {ll:List (List Int)} {c:Nat} (h:GI w b d a ll c):Rg.Rows w (.slice a ll.length c) ll:=h.2.2.1
theorem GI.lt {w:World} {b:Nat} {d:Int} {a:Option Addr} {ll:List (List Int)} {c:Nat} (h:GI w b d a ll c):b<w.heap.size:=h.2.2.2
theorem GI.below {w w':World} {b:Nat} {d:Int} {a:Option Addr} {ll:List (List Int)} {c:Nat} (h:GI w b d a ll c) (hb:Below w.heap.size w w'):GI w' b d a ll c :=
 ⟨(hb.cell (p:=⟨b,0,none⟩) h.lt).trans h.c0,(hb.cell (p:=⟨b,1,none⟩) h.lt).trans h.c1,Rg.Rows.below h.rows hb,Nat.lt_of_lt_of_le h.lt hb.size⟩
theorem GI.new {w:World} {d:Int} {a:Option Addr} {ll:List (List Int)} {c:Nat} (h:Rg.Rows w (.slice a ll.length c) ll):GI (w.alloc (.cells #[.int .i64 d,.slice a ll.length c] 24)) w.heap.size d a ll c :=
 ⟨by rw [Rg.cellNew]; rfl,by rw [Rg.cellNew]; rfl,Rg.Rows.below h ((Below.refl _ _).alloc (Nat.le_refl _) _),by simp⟩
theorem GI.enter {w:World} {gv:Value} (d:Int) {ll:List (List Int)} (h:Rg.Rows w gv ll):∃ a c,gv=.slice a ll.length c∧GI (w.alloc (.cells #[.int .i64 d,.slice a ll.length c] 24)) w.heap.size d a ll c∧Below w.heap.size w (w.alloc (.cells #[.int .i64 d,.slice a ll.length c] 24)):=by
 obtain ⟨a,c,rfl,_⟩:=h.shape;exact ⟨a,c,rfl,GI.new h,(Below.refl _ _).alloc (Nat.le_refl _) _⟩
end Go.Proofs.YthehbckogieimaaGreat

namespace Go.Proofs.YthehbckogieimaaGreat
open Go.RowKit
open Go.Proofs
open Go.Proofs.Ob
attribute [local irreducible] Go.Calls
theorem run_build1P (X:World) (u:Value) (hs:∃ a n c,u=.slice a n c):(Instr.buildSlice 22 1 #[(0,u)]).run Tryz.prog X=.ok (.slice (some ⟨X.heap.size,0,none⟩) 1 1) (X.alloc (.cells #[u] 51)):=by
 obtain ⟨i0,hi,hz0,hz1,hz2⟩:=info_parts infoPerm;obtain ⟨a,n,c,rfl⟩:=hs;refine run_buildSlice X 22 51 1 _ _ i0 _ Tryz.underlying22 hi hz0 (by rw [hz1]; decide) (by rw [hz1]; decide) ?_;generalize (fun x=>((Value.slice none 0 0).cells)[x % (Value.slice none 0 0).cells.size]!)=f;rw [hz1];have h1:Array.range (1*1)=#[0]:=rfl;simp [Instr.fill,Value.cells,h1]
theorem ofN_inj {a b:List Nat}:Ma.ofN a=Ma.ofN b↔a=b:=by
 constructor
 ·intro h
  have:=congrArg (fun l=>l.map Int.toNat) h
  simpa [Ma.ofN,List.map_map,Function.comp_def] using this
 ·rintro rfl; rfl

theorem szP:(Tryz.prog.info? 51).map (·.size)=some 1:=by kernel_rfl
theorem run_storeP {w:World} {b o:Nat} {u:Value} (a:Option Addr) (n c:Nat) (h:w.cell? ⟨b,o,none⟩=some u) (hf:w.frozen? ⟨b,o,none⟩=false) :
  (storeVar 51 ⟨b,o,none⟩ (.slice a n c)).run Tryz.prog w=.ok () (w.setCell ⟨b,o,none⟩ (.slice a n c)):=by
 obtain ⟨i0,hi,hz0,hz1,hz2⟩:=info_parts infoPerm
 have h0:(⟨b,o,none⟩:Addr).add 0=⟨b,o,none⟩:=by simp [Addr.add]
 simp [storeVar,sizeOf,typeInfo,hi,hz1,Value.cells,storeCells,store,h0];simp [Sem.run,h,hf]
def UA (w:World) (bu:Nat) (gs:List (List Nat)) (D:Nat) (T:List En) (k:Nat):Prop :=
 ∃ F,w.rowIs bu 207 64 F∧∀ i (h:i<T.length),i<k→Rg.NP w (F T[i].1) (wprod gs D T[i].2.2.2)∧Rg.Fresh (bu+1) (F T[i].1)
theorem UA.lt {w:World} {bu:Nat} {gs:List (List Nat)} {D:Nat} {T:List En} {k:Nat} (h:UA w bu gs D T k):bu<w.heap.size:=by
 obtain ⟨F,⟨c,h1,_⟩,_⟩:=h;exact (Array.getElem?_eq_some_iff.1 h1).1
theorem UA.below {w w':World} {bu:Nat} {gs:List (List Nat)} {D:Nat} {T:List En} {k:Nat} (h:UA w bu gs D T k) (hb:Below w.heap.size w w'):UA w' bu gs D T k:=by
 obtain ⟨F,⟨c,h1,h2,h3⟩,h4⟩:=h;exact ⟨F,⟨c,by rw [hb.block bu (Array.getElem?_eq_some_iff.1 h1).1]; exact h1,h2,h3⟩,fun i hi hk=>⟨(h4 i hi hk).1.below hb,(h4 i hi hk).2⟩⟩
theorem UA.start (w:World) (gs:List (List Nat)) (D:Nat) (T:List En):UA (w.alloc (.cells (Array.replicate 64 (.slice none 0 0)) 207)) w.heap.size gs D T 0:=by
 refine ⟨fun _=>.slice none 0 0,?_,fun i _ h=>by omega⟩;have:=World.rowIs_alloc w (Array.replicate 64 (.slice none 0 0)) 207 (fun _=>.slice none 0 0) (fun i hi=>by rw [Array.getElem?_replicate,if_pos (by simpa using hi)])
 simpa using this
theorem UA.put {w W:World} {bu:Nat} {gs:List (List Nat)} {D:Nat} {T:List En} {k:Nat} (h:UA w bu gs D T k) (hb:Below w.heap.size w W) (hnd:(pts T).Nodup) (hk:k<T.length) (h64:T[k].1<64) {a:Option Addr} {n c:Nat} (hu:Rg.NPF w W (.slice a n c) (wprod gs D T[k].2.2.2)) :
  (storeVar 51 ⟨bu,0+T[k].1,none⟩ (.slice a n c)).run Tryz.prog W=.ok () (W.setCell ⟨bu,0+T[k].1,none⟩ (.slice a n c))∧UA (W.setCell ⟨bu,0+T[k].1,none⟩ (.slice a n c)) bu gs D T (k+1):=by
 have hlt:=h.lt;have h':=h.below hb;obtain ⟨F,h1,h2⟩:=h';rw [Nat.zero_add];refine ⟨run_storeP a n c (h1.cell h64) (h1.frozen _),_,h1.set T[k].1 (.slice a n c),fun i hi hik=>?_⟩
 by_cases he:i=k
 ·subst he
  simp only [if_true];have hf:Rg.Fresh (bu+1) (.slice a n c):=hu.2.mono hlt;exact ⟨ints_set hu.1 hf (by omega) _,hf⟩
 ·have hne:T[i].1≠T[k].1:=by
   intro e;have:=(List.getElem_inj hnd (h₀:=by rw [len_pts]; omega) (h₁:=by rw [len_pts]; omega)).1 ((get_pts T i (by rw [len_pts]; omega)).trans (e.trans (get_pts T k (by rw [len_pts]; omega)).symm));omega
  obtain ⟨g1,g2⟩:=h2 i hi (by omega);simp only [if_neg hne];exact ⟨ints_set g1 g2 (by omega) _,g2⟩

theorem exec_makeFunc {o:Oper} {a:Act} {w:World} (F:FuncId) (x:Operand) (ho:o.op=.makeFunc (.func F) #[] #[x]) {v:Value} (hx:a.eval x=v):(execOp a.eval o).run Tryz.prog w=.ok (.value (.func (.func F) #[] #[v])) w:=by
 unfold execOp;simp [ho,hx,Instr.makeFunc]
end Go.Proofs.YthehbckogieimaaGreat

namespace Go.Proofs
open Go.Shelf
def Tryz.lays189_ren:Go.Shelf.Ren:=⟨fun | 189=>264 | 125=>174 | 257=>310 | 128=>253 | 129=>254 | 294=>320 | 295=>321 | 296=>322 | 297=>323 | 298=>324 | 299=>325 | 216=>259 | 300=>326 | 301=>327 | 328=>328 | 329=>303 | 330=>304 | 331=>329 | 332=>330 | 215=>244 | 343=>331 | n=>n,fun | 28=>36 | 3=>3 | 46=>185 | 0=>0 | 51=>259 | 53=>261 | 4=>4 | 183=>253 | 182=>252 | 131=>121 | 5=>5 | 9=>9 | 218=>293 | 222=>297 | 228=>307 | 229=>308 | n=>n,fun | n=>n⟩
theorem Tryz.lays189:Go.Proofs.Lays.n189 Tryz.prog Tryz.lays189_ren:={
 mixed:=by kernel_rfl
 f125:=Tryz.func174.trans (congrArg some (by kernel_rfl))
 f128:=Tryz.func253.trans (congrArg some (by kernel_rfl))
 f129:=Tryz.func254.trans (congrArg some (by kernel_rfl))
 f189:=Tryz.func264.trans (congrArg some (by kernel_rfl))
 f215:=Tryz.func244.trans (congrArg some (by kernel_rfl))
 f216:=Tryz.func259.trans (congrArg some (by kernel_rfl))
 f257:=Tryz.func310.trans (congrArg some (by kernel_rfl))
 f294:=Tryz.func320.trans (congrArg some (by kernel_rfl))
 f295:=Tryz.func321.trans (congrArg some (by kernel_rfl))
 f296:=Tryz.func322.trans (congrArg some (by kernel_rfl))
 f297:=Tryz.func323.trans (congrArg some (by kernel_rfl))
 f298:=Tryz.func324.trans (congrArg some (by kernel_rfl))
 f299:=Tryz.func325.trans (congrArg some (by kernel_rfl))
 f300:=Tryz.func326.trans (congrArg some (by kernel_rfl))
 f301:=Tryz.func327.trans (congrArg some (by kernel_rfl))
 f328:=Tryz.func328.trans (congrArg some (by kernel_rfl))
 f329:=Tryz.func303.trans (congrArg some (by kernel_rfl))
 f330:=Tryz.func304.trans (congrArg some (by kernel_rfl))
 f331:=Tryz.func329.trans (congrArg some (by kernel_rfl))
 f332:=Tryz.func330.trans (congrArg some (by kernel_rfl))
 f343:=Tryz.func331.trans (congrArg some (by kernel_rfl))
 t0:=Tryz.underlying0
 a0:=Tryz.isAgg0
 z0:=Tryz.sizeOf0
 v0:=Tryz.zeroValue0
 t3:=Tryz.underlying3
 a3:=Tryz.isAgg3
 z3:=Tryz.sizeOf3
 v3:=Tryz.zeroValue3
 t4:=Tryz.underlying4
 a4:=Tryz.isAgg4
 z4:=Tryz.sizeOf4
 v4:=Tryz.zeroValue4
 t5:=Tryz.underlying5
 a5:=Tryz.isAgg5
 z5:=Tryz.sizeOf5
 v5:=Tryz.zeroValue5
 t9:=Tryz.underlying9
 a9:=Tryz.isAgg9
 z9:=Tryz.sizeOf9
 v9:=Tryz.zeroValue9
 t28:=Tryz.underlying36
 a28:=Tryz.isAgg36
 z28:=Tryz.sizeOf36
 v28:=Tryz.zeroValue36
 t46:=Tryz.underlying185
 a46:=Tryz.isAgg185
 z46:=Tryz.sizeOf185
 v46:=Tryz.zeroValue185
 t51:=Tryz.underlying259
 a51:=Tryz.isAgg259
 z51:=Tryz.sizeOf259
 v51:=Tryz.zeroValue259
 t53:=Tryz.underlying261
 a53:=Tryz.isAgg261
 z53:=Tryz.sizeOf261
 v53:=Tryz.zeroValue261
 t131:=Tryz.underlying121
 a131:=Tryz.isAgg121
 z131:=Tryz.sizeOf121
 v131:=Tryz.zeroValue121
 t182:=Tryz.underlying252
 a182:=Tryz.isAgg252
 z182:=Tryz.sizeOf252
 v182:=Tryz.zeroValue252
 t183:=Tryz.underlying253
 a183:=Tryz.isAgg253
 z183:=Tryz.sizeOf253
 v183:=Tryz.zeroValue253
 t218:=Tryz.underlying293
 a218:=Tryz.isAgg293
 z218:=Tryz.sizeOf293
 v218:=Tryz.zeroValue293
 t222:=Tryz.underlying297
 a222:=Tryz.isAgg297
 z222:=Tryz.sizeOf297
 v222:=Tryz.zeroValue297
 t228:=Tryz.underlying307
 a228:=Tryz.isAgg307
 z228:=Tryz.sizeOf307
 v228:=Tryz.zeroValue307
 t229:=Tryz.underlying308
 a229:=Tryz.isAgg308
 z229:=Tryz.sizeOf308
 v229:=Tryz.zeroValue308 }
open Go.Sort Go.RowKit in
theorem Tryz.slices_Sort_int (blk off cap:Nat) (zs:List Int) (w:World) (hH:Holds (Value.int .i64) w blk off zs.toArray) (hblk:blk<w.heap.size) (hsz:zs.length<4611686018427387904) :
  Calls Tryz.prog 264 #[.slice (some ⟨blk,off,none⟩) zs.length cap] w fun e w' =>
   e=.returned (.tuple #[])∧∃ n os,w'=grow (putRow (Value.int .i64) (Sort.ahead w n) blk off (zs.mergeSort fun x y=>decide (x≤y)).toArray) os:=Any.slices_Sort_int Tryz.lays189 blk off cap zs w hH hblk hsz
end Go.Proofs

namespace Go.Proofs.YthehbckogieimaaGreat
open Go.RowKit
open Go.Proofs
open Go.Proofs.Ob
attribute [local irreducible] Go.Calls
theorem asc_length (l:List Int):(asc l).length=l.length:=by
 rw [asc_sort]; exact List.length_mergeSort _
theorem sort_own (B n:Nat) (v:Value) (l:List Int) (w:World) (h:w.ownsRow B 3 1 v n (l.map (Value.int .i64))) (hn:0<n) (hm:n≤1000000000) :
  Calls Tryz.prog 264 #[v] w fun e w'=>(∃ r,e=.returned r)∧w'.ownsRow B 3 1 v n ((asc l).map (Value.int .i64))∧w.grownBy w' v.ownBlock:=by
 obtain ⟨h1,h2⟩:=h
 have hl:l.length=n:=by simpa using h1
 rcases h2 with ⟨_,h0⟩ | ⟨g,cap,cur,rfl,hg,hc,h3,h4,h5,h6⟩
 ·omega
 subst hl;rw [Nat.mul_one] at h6;have hH:=holds_of_blockI hc h6;refine (Tryz.slices_Sort_int g 0 cap l w hH (Array.getElem?_eq_some_iff.1 hc).1 (by omega)).mono ?_;rintro e w' ⟨rfl,N,os,rfl⟩;have e1:(l.mergeSort fun x y=>decide (x≤y))=asc l:=(asc_sort l).symm;rw [e1];refine ⟨⟨_,rfl⟩,ownsRow_sortedI (asc_length l) hg hc h3 h4 h5,grownBy_sortedI _⟩
end Go.Proofs.YthehbckogieimaaGreat

namespace Go.Proofs.Rg
open Go Go.RowKit
variable {P:Program} {md:Region.Mode} {ops:Array Oper} {Q:Exit→Act→World→Prop} {S:Array Bool→World→Prop}
theorem doesRun {i d:Nat} {I:World→Prop} {R:Value→World→Prop} {K:World→World→Prop} {oi:Oper} {b:Act} {W W':World} {v:Value} (hi:ops[i]?=some oi) (hd:oi.dst=some d) (hw:Region.wanted oi (yielded ops b.tmps)=true)
  (hr:(execOp b.eval oi).run P W=.ok (.value v) W') (hp:I W'∧R v W'∧K W W'):Does P ops Q i d I R K b W :=
 wpOp_value (some d) hi hd hw hr ⟨v,rfl,hp⟩
def BlkF (B:Nat) (us:List Value) (v:Value) (w:World):Prop:=∃ p,v=.slice (some ⟨p,0,none⟩) us.length us.length∧B≤p∧p<w.heap.size∧∀ j (h:j<us.length),w.cell? ⟨p,j,none⟩=some us[j]
theorem BlkF.below {B:Nat} {us:List Value} {v:Value} {w w':World} (h:BlkF B us v w) (hb:Below w.heap.size w w'):BlkF B us v w':=by
 obtain ⟨p,e,h0,h1,h2⟩:=h;exact ⟨p,e,h0,Nat.lt_of_lt_of_le h1 hb.size,fun j hj=>(hb.cell (p:=⟨p,j,none⟩) h1).trans (h2 j hj)⟩
theorem BlkF.new {B:Nat} (w:World) (us:List Value) (t:TypeId) (hB:B≤w.heap.size):BlkF B us (.slice (some ⟨w.heap.size,0,none⟩) us.length us.length) (w.alloc (.cells us.toArray t)) :=
 ⟨w.heap.size,rfl,hB,by simp,fun j hj=>by rw [cellNew]; simp [List.getElem?_eq_getElem hj]⟩
theorem BlkF.grown {B:Nat} {us:List Value} {v:Value} {w w':World} {k:Option Nat} (h:BlkF B us v w) (hg:w.grownBy w' k) (hk:∀ j,k=some j→j<B):BlkF B us v w':=by
 obtain ⟨p,e,h0,h1,h2⟩:=h
 exact ⟨p,e,h0,Nat.lt_of_lt_of_le h1 hg.size,fun j hj=>by
  rw [← h2 j hj]
  exact World.cell?_of_block (a:=⟨p,j,none⟩) (hg.block p h1 (fun e=>by have:=hk p e.symm; omega))⟩
theorem BlkF.vals {B:Nat} {us:List Value} {v:Value} {w:World} (h:BlkF B us v w) (hl:us.length≤1000000):Vals w v us:=by
 obtain ⟨p,rfl,h0,h1,h2⟩:=h;exact Vals.mk h1 (Nat.le_refl _) (by unfold maxLen; omega) (by omega) (fun i hi=>by rw [Nat.zero_add]; exact h2 i hi)
end Go.Proofs.Rg

namespace Go.Proofs.YthehbckogieimaaGreat
open Go.RowKit
open Go.Proofs
open Go.Proofs.Ob
attribute [local irreducible] Go.Calls
def Own0 (B:Nat) (u:Value) (w:World):Prop:=w.ownsRow B 3 1 u 0 []∧∃ p,u=.slice (some ⟨p,0,none⟩) 0 0∧p<w.heap.size∧w.cell? ⟨p,0,none⟩=none
theorem Own0.below {B:Nat} {u:Value} {w w':World} (h:Own0 B u w) (hb:Below w.heap.size w w'):Own0 B u w':=by
 obtain ⟨h1,p,e,h2,h3⟩:=h;exact ⟨Rg.row_below h1 hb,p,e,Nat.lt_of_lt_of_le h2 hb.size,(hb.cell (p:=⟨p,0,none⟩) h2).trans h3⟩
theorem Own0.new {B:Nat} (w:World) (hB:B≤w.heap.size):Own0 B (.slice (some ⟨w.heap.size,0,none⟩) 0 0) (w.alloc (.cells #[] 3)):=by
 refine ⟨⟨rfl,.inr ⟨w.heap.size,0,#[],rfl,hB,by show (w.heap.push _)[w.heap.size]?=_; simp,Nat.le_refl _,Nat.zero_le _,rfl,rfl⟩⟩,w.heap.size,rfl,by simp,by rw [Rg.cellNew]; rfl⟩
theorem BlkF.off {B:Nat} {x v:Value} {w w':World} {k:Option Nat} (h:Rg.BlkF B [x] v w) (hg:w.grownBy w' k) (hk:∀ p,v=.slice (some ⟨p,0,none⟩) 1 1→k≠some p):Rg.BlkF B [x] v w':=by
 obtain ⟨p,e,h0,h1,h2⟩:=h
 exact ⟨p,e,h0,Nat.lt_of_lt_of_le h1 hg.size,fun j hj=>by
  rw [← h2 j hj]
  exact World.cell?_of_block (a:=⟨p,j,none⟩) (hg.block p h1 (fun e'=>hk p e e'.symm))⟩
theorem ints_cells {l:List Int}:∀ u∈l.map (Value.int .i64),u.oneCell'=true:=fun u hu=>by
 obtain ⟨x,_,rfl⟩:=List.mem_map.1 hu; rfl

theorem SamePerms_b {v1 v2:Value} {l1 l2:List (List Int)} {w:World} {b:Bool} (h1:Rg.Rows w v1 l1) (h2:Rg.Rows w v2 l2) (hd:Hid (decide (l1=l2)=b)) :
  Calls Tryz.prog 51 #[v1,v2] w fun e w'=>e=.returned (.bool b)∧Below w.heap.size w w':=by
 refine (SamePerms_q v1 v2 l1 l2 w h1 h2).mono ?_;rintro e w' ⟨rfl,k,rfl⟩;exact ⟨by rw [hd.out],Rg.drewN (Below.refl _ _) k⟩

theorem GA.enter {w:World} {gv:Value} (D:Nat) {gs:List (List Nat)} (h:Rg.NRows w gv gs):∃ a c,gv=.slice a gs.length c∧GA (w.alloc (.cells #[.int .i64 ((D:Nat):Int),.slice a gs.length c] 24)) w.heap.size D a gs c∧Below w.heap.size w (w.alloc (.cells #[.int .i64 ((D:Nat):Int),.slice a gs.length c] 24)):=by
 obtain ⟨a,c,rfl,_⟩:=h.shape;exact ⟨a,c,rfl,GA.new h,(Below.refl _ _).alloc (Nat.le_refl _) _⟩

def R2 (B:Nat) (w:World) (v1 v2:Value) (l1 l2:List Int):Prop :=
 B≤w.heap.size∧w.ownsRow B 3 1 v1 l1.length (l1.map (Value.int .i64))∧w.ownsRow B 3 1 v2 l2.length (l2.map (Value.int .i64))∧Rg.Apart v1 v2
theorem R2.below {B:Nat} {w w':World} {v1 v2:Value} {l1 l2:List Int} (h:R2 B w v1 v2 l1 l2) (hb:Below w.heap.size w w'):R2 B w' v1 v2 l1 l2 :=
 ⟨Nat.le_trans h.1 hb.size,Rg.row_below h.2.1 hb,Rg.row_below h.2.2.1 hb,h.2.2.2⟩
theorem R2.nil {B:Nat} {w:World} (h:B≤w.heap.size):R2 B w (.slice none 0 0) (.slice none 0 0) [] []:=⟨h,World.ownsRow_nil _ _ _ _,World.ownsRow_nil _ _ _ _,Rg.Apart.nil _⟩
theorem R2.app1 {B:Nat} {w:World} {v1 v2:Value} {l1 l2:List Int} (h:R2 B w v1 v2 l1 l2) (hl:l1.length<1000000) {x:Int} {p c:Nat} (hc:w.cell? ⟨p,0,none⟩=some (.int .i64 x)) (ty:TypeId) :
  ∃ v' X,(Builtin.append_ #[36,36] ty #[v1,.slice (some ⟨p,0,none⟩) 1 c]).run Tryz.prog w=.ok v' X∧R2 B X v' v2 (l1++[x]) l2∧w.grownBy X v1.ownBlock:=by
 obtain ⟨h1,h2,h3,h4⟩:=h;obtain ⟨v',X,r1,r2,r3,r4,_⟩:=app_run (P:=Tryz.prog) slInts ty h2 h1 p c hc rfl hl;exact ⟨v',X,r1,⟨Nat.le_trans h1 r3.size,by simpa using r2,h4.keep h3 r3,h4.grow h3 r4 (Nat.le_refl _)⟩,r3⟩
theorem R2.swap {B:Nat} {w:World} {v1 v2:Value} {l1 l2:List Int} (h:R2 B w v1 v2 l1 l2):R2 B w v2 v1 l2 l1:=⟨h.1,h.2.2.1,h.2.1,h.2.2.2.symm⟩
end Go.Proofs.YthehbckogieimaaGreat

namespace Go.Proofs.YthehbckogieimaaGreat
open Go.RowKit
open Go.Proofs
open Go.Proofs.Ob
attribute [local irreducible] Go.Calls
variable {t e bt:TypeId} {B X n:Nat} {w w':World} {v lv:Value} {O:List (List Int)} {l:List Int} {F:Nat→Bool}
theorem infoInts:(Tryz.prog.info? 36).map (fun i=>(i.zero,i.size,i.bytes))=some (some (.slice none 0 0),1,24):=by kernel_rfl
theorem slIntss:Rg.SlT Tryz.prog 27 36 (.slice none 0 0) 24:=⟨Tryz.underlying27,infoInts,rfl,by decide⟩
theorem run_build1L (X:World) (u:Value) (hs:∃ a n c,u=.slice a n c):(Instr.buildSlice 27 1 #[(0,u)]).run Tryz.prog X=.ok (.slice (some ⟨X.heap.size,0,none⟩) 1 1) (X.alloc (.cells #[u] 36)):=by
 obtain ⟨i0,hi,hz0,hz1,hz2⟩:=info_parts infoInts;obtain ⟨a,n,c,rfl⟩:=hs;refine run_buildSlice X 27 36 1 _ _ i0 _ Tryz.underlying27 hi hz0 (by rw [hz1]; decide) (by rw [hz1]; decide) ?_;generalize (fun x=>((Value.slice none 0 0).cells)[x % (Value.slice none 0 0).cells.size]!)=f;rw [hz1];have h1:Array.range (1*1)=#[0]:=rfl;simp [Instr.fill,Value.cells,h1]
end Go.Proofs.YthehbckogieimaaGreat

namespace Go.Proofs.YthehbckogieimaaGreat
open Go.RowKit
open Go.Proofs
attribute [local irreducible] Go.Calls
theorem chMul_any (v1 v2:Value) (a c:List Nat) (w:World) (h:Rg.NP w v1 a) (h':Rg.NP w v2 c) (hac:∀ x∈a,x<c.length) (hn:a.length≤1000) (h1:1≤a.length) (h2:1≤c.length) :
  Calls Tryz.prog 183 #[v1,v2] w fun e w'=>∃ v,e=.returned v∧Rg.NPF w w' v (Ma.mulN a c)∧Below w.heap.size w w':=by
 obtain ⟨ad,cap,rfl,hc,_,_,hcell⟩:=h.shape;obtain ⟨b,o,rfl,hb,hr⟩:=hcell (by omega);obtain ⟨ad2,cap2,rfl,hc2,_,_,hcell2⟩:=h'.shape;obtain ⟨b2,o2,rfl,hb2,hr2⟩:=hcell2 (by omega);have Hr:=ι hr;have Hr2:=ι hr2;have Hac:=ι hac;clear hr hcell h hr2 hcell2 h' hac;have hmk:=mkPerm a.length (by omega) w;have hrow:=ι (World.rowIs_made w (.int .i64 0) a.length 3)
 go_enter Tryz.func183,Tryz.ntmps183
 go_wp2;clear hmk
 go_loopw [13] (fun i wr=>∃ k:Nat,k≤a.length∧i=.int .i64 k∧Hid (wr.rowIs w.heap.size 3 a.length (fun j=>.int .i64 (if j<k then ((c.getD (a.getD j 0) 0:Nat):Int) else 0)))∧Below w.heap.size w wr) (fun i _=>a.length - (intOf i).toNat)
 case atStart=>exact ⟨0,by omega,rfl,hrow.out.congr (fun i hi=>by simp),(Below.refl _ _).alloc (Nat.le_refl _) _⟩
 case round =>
  obtain ⟨k,hk,rfl,hs,hbel⟩:=hrel;obtain ⟨hc,hf⟩:=Rg.bcell hbel
  by_cases hlt:k<a.length
  ·have e0:wr.cell? ⟨b,o+k,none⟩=some (.int .i64 ((a[k]:Nat):Int)):=(hc b (o+k) hb).trans (Hr.out k hlt)
   have hak:a[k]<c.length:=Hac.out _ (List.getElem_mem hlt);have hga:a.getD k 0=a[k]:=Ma.getD_lt hlt
   have e1:wr.cell? ⟨b2,o2+a[k],none⟩=some (.int .i64 ((c.getD (a.getD k 0) 0:Nat):Int)):=by
    rw [hga,Ma.getD_lt hak];exact (hc b2 (o2+a[k]) hb2).trans (Hr2.out a[k] hak)
   generalize a[k]=x at *;have Hga:=ι hga;generalize hy:c.getD (a.getD k 0) 0=y at *;have Hy:=ι hy;clear hc hf hga hy;have c1:=hs.out.cell hlt;have f1:=hs.out.frozen k;simp only [Nat.lt_irrefl,if_false] at c1;go_wp2
   go_roundw
   case rel =>
    refine ⟨k+1,by omega,by go_num,?_,hbel.setCell (Nat.le_refl _) _⟩;refine (hs.out.set k _).congr fun i hi=>?_
    by_cases e:i=k
    ·subst e; rw [if_pos rfl,if_pos (by omega),Hy.out]
    ·rw [if_neg e]
     by_cases e2:i<k
     ·rw [if_pos e2,if_pos (by omega)]
     ·rw [if_neg e2,if_neg (by omega)]
   case measure=>simp [intOf]; omega
  ·obtain rfl:k=a.length:=by omega
   go_wp2;go_ret;refine ⟨_,rfl,⟨Rg.NP.of_rowIs hs.out (by rw [Ma.len_mulN]) (by omega) (fun i hi=>?_),Rg.Fresh.mk _ _ _ _⟩,by assumption⟩;rw [Ma.get_mulN];rw [Ma.len_mulN] at hi;rw [if_pos hi,Ma.getD_lt hi]
theorem chOne_any (n:Nat) (w:World) (hn:n≤1000) :
  Calls Tryz.prog 122 #[.int .i64 n] w fun e w'=>∃ v,e=.returned v∧Rg.NPF w w' v (Ma.oneN n)∧Below w.heap.size w w':=by
 have hmk:=mkPerm n (by omega) w;have hrow:=ι (World.rowIs_made w (.int .i64 0) n 3)
 go_enter Tryz.func122,Tryz.ntmps122
 go_wp2;clear hmk
 go_loopw [9] (fun i wr=>∃ k:Nat,k≤n∧i=.int .i64 k∧Hid (wr.rowIs w.heap.size 3 n (fun j=>.int .i64 (if j<k then (j:Int) else 0)))∧Below w.heap.size w wr) (fun i _=>n - (intOf i).toNat)
 case atStart=>exact ⟨0,by omega,rfl,hrow.out.congr (fun i hi=>by simp),(Below.refl _ _).alloc (Nat.le_refl _) _⟩
 case round =>
  obtain ⟨k,hk,rfl,hs,hbel⟩:=hrel
  by_cases hlt:k<n
  ·have c1:=hs.out.cell hlt
   have f1:=hs.out.frozen k;simp only [Nat.lt_irrefl,if_false] at c1;go_wp2
   go_roundw
   case rel =>
    refine ⟨k+1,by omega,by go_num,?_,hbel.setCell (Nat.le_refl _) _⟩;refine (hs.out.set k _).congr fun i hi=>?_
    by_cases e:i=k
    ·subst e; simp
    ·rw [if_neg e]
     by_cases e2:i<k
     ·rw [if_pos e2,if_pos (by omega)]
     ·rw [if_neg e2,if_neg (by omega)]
   case measure=>simp [intOf]; omega
  ·obtain rfl:k=n:=by omega
   go_wp2;go_ret;refine ⟨_,rfl,⟨Rg.NP.of_rowIs hs.out (by rw [Ma.len_oneN]) (by omega) (fun i hi=>?_),Rg.Fresh.mk _ _ _ _⟩,by assumption⟩;rw [Ma.get_oneN];rw [Ma.len_oneN] at hi;rw [if_pos hi]
theorem chInv_any (v:Value) (a:List Nat) (w:World) (h:Rg.NP w v a) (ha:Ma.okN a) (hn:a.length≤1000) (h1:1≤a.length) :
  Calls Tryz.prog 184 #[v] w fun e w'=>∃ v,e=.returned v∧Rg.NPF w w' v (Ma.invN a)∧Below w.heap.size w w':=by
 obtain ⟨ad,cap,rfl,hc,_,_,hcell⟩:=h.shape;obtain ⟨b,o,rfl,hb,hr⟩:=hcell (by omega);have Hr:=ι hr;clear hr hcell h;have hmk:=mkPerm a.length (by omega) w;have hrow:=ι (World.rowIs_made w (.int .i64 0) a.length 3)
 go_enter Tryz.func184,Tryz.ntmps184
 go_wp2;clear hmk
 go_loopw [11] (fun i wr=>∃ k:Nat,k≤a.length∧i=.int .i64 k∧Hid (wr.rowIs w.heap.size 3 a.length (fun j=>.int .i64 (if j∈a.take k then ((a.idxOf j:Nat):Int) else 0)))∧Below w.heap.size w wr) (fun i _=>a.length - (intOf i).toNat)
 case atStart=>exact ⟨0,by omega,rfl,hrow.out.congr (fun i hi=>by simp),(Below.refl _ _).alloc (Nat.le_refl _) _⟩
 case round =>
  obtain ⟨k,hk,rfl,hs,hbel⟩:=hrel;obtain ⟨hc,hf⟩:=Rg.bcell hbel
  by_cases hlt:k<a.length
  ·have hlt':k<a.length:=hlt
   have e0:wr.cell? ⟨b,o+k,none⟩=some (.int .i64 ((a[k]:Nat):Int)):=(hc b (o+k) hb).trans (Hr.out k hlt');have hak:a[k]<a.length:=Ma.okN_lt ha hlt';have hix:=Ma.idx_get ha hlt'
   have hmem:∀ i,i∈a.take (k+1)↔(i∈a.take k∨i=a[k]):=fun i=>by rw [List.take_succ_eq_append_getElem hlt',List.mem_append,List.mem_singleton]
   generalize hx:a[k]=x at *;have Hx:=ι hx;have Hix:=ι hix;have Hmem:=ι hmem;clear hx hc hf hix hmem;have c1:=hs.out.cell hak;have f1:=hs.out.frozen x;generalize (Value.int .i64 (if x∈a.take k then ((a.idxOf x:Nat):Int) else 0))=u0 at c1;go_wp2
   go_roundw
   case rel =>
    refine ⟨k+1,by omega,by go_num,?_,hbel.setCell (Nat.le_refl _) _⟩;refine (hs.out.set x _).congr fun i hi=>?_
    by_cases e:i=x
    ·subst e; rw [if_pos rfl,if_pos ((Hmem.out i).2 (.inr rfl)),Hix.out]
    ·rw [if_neg e]
     by_cases e2:i∈a.take k
     ·rw [if_pos e2,if_pos ((Hmem.out i).2 (.inl e2))]
     ·rw [if_neg e2,if_neg (fun e3=>((Hmem.out i).1 e3).elim e2 e)]
   case measure=>simp [intOf]; omega
  ·obtain rfl:k=a.length:=by omega
   go_wp2;go_ret;refine ⟨_,rfl,⟨Rg.NP.of_rowIs hs.out (by rw [Ma.len_invN]) (by omega) (fun i hi=>?_),Rg.Fresh.mk _ _ _ _⟩,by assumption⟩;rw [Ma.get_invN];rw [Ma.len_invN] at hi;rw [List.take_of_length_le (Nat.le_refl _),if_pos (Ma.okN_mem ha hi)]
theorem rowKp {M:Nat→Prop} {w w':World} {base:Nat} {e:TypeId} {size:Nat} {v:Value} {n:Nat} {xs:List Value} (h:w.ownsRow base e size v n xs) (hk:Rg.Kp M w w') (hM:∀ k,M k→v.ownBlock≠some k):w'.ownsRow base e size v n xs:=by
 obtain ⟨h1,h2⟩:=h
 rcases h2 with h2 | ⟨g,cap,cur,rfl,hg,hc,h3⟩
 ·exact ⟨h1,.inl h2⟩
 ·exact ⟨h1,.inr ⟨g,cap,cur,rfl,hg,(hk.block g (Array.getElem?_eq_some_iff.1 hc).1 (fun e=>hM g e (by simp [Value.ownBlock]))).trans hc,h3⟩⟩
def KF (F:Nat→Prop) (w w':World):Prop:=Rg.Kp (fun k=>¬ F k) w w'
theorem KF.refl (F:Nat→Prop) (w:World):KF F w w:=Rg.Kp.refl _ _
theorem KF.size {F:Nat→Prop} {w w':World} (h:KF F w w'):w.heap.size≤w'.heap.size:=Rg.Kp.size h
theorem KF.of_below {F:Nat→Prop} {w w':World} (h:Below w.heap.size w w'):KF F w w':=Rg.Kp.of_below h
theorem KF.trans {F F':Nat→Prop} {w w' w'':World} (h:KF F w w') (h':KF F' w' w'') (hF:∀ k,F k→F' k):KF F w w'':=Rg.Kp.trans h h' (fun k _ hk hf=>hk (hF k hf))
theorem KF.weak {F F':Nat→Prop} {w w':World} (h:KF F' w w') (hF:∀ k,F k→F' k):KF F w w':=Rg.Kp.weak h (fun k hk hf=>hk (hF k hf))
theorem KF.cell {F:Nat→Prop} {w w':World} (h:KF F w w') {b o:Nat} (hF:F b) (hb:b<w.heap.size):w'.cell? ⟨b,o,none⟩=w.cell? ⟨b,o,none⟩ :=
 World.cell?_of_block (a:=⟨b,o,none⟩) (Rg.Kp.block h b hb (fun e=>e hF))
theorem KF.below {F:Nat→Prop} {w w':World} {B:Nat} (h:KF F w w') (hB:B≤w.heap.size) (hF:∀ k,k<B→F k):Below B w w' :=
 ⟨Rg.Kp.os h,Rg.Kp.tape h,Rg.Kp.output h,h.size,fun k hk=>Rg.Kp.block h k (Nat.lt_of_lt_of_le hk hB) (fun e=>e (hF k hk))⟩
def Fup (F:Nat→Prop) (w w':World):Nat→Prop:=fun k=>F k∨(w.heap.size≤k∧k<w'.heap.size)
structure KG (F0:Nat→Prop) (w0:World) (F:Nat→Prop) (w:World):Prop where
 sub:∀ k,F0 k→F k
 lt:∀ k,F k→k<w.heap.size
 kf:KF F0 w0 w
theorem KG.refl {F:Nat→Prop} {w:World} (h:∀ k,F k→k<w.heap.size):KG F w F w:=⟨fun _ h=>h,h,KF.refl _ _⟩
theorem KG.up {F0 F:Nat→Prop} {w0 w w':World} (h:KG F0 w0 F w) (hb:Below w.heap.size w w'):KG F0 w0 (Fup F w w') w' :=
 ⟨fun k hk=>.inl (h.sub k hk),fun k hk=>by rcases hk with hk | hk; exact Nat.lt_of_lt_of_le (h.lt k hk) hb.size; exact hk.2,KF.trans h.kf (KF.of_below (F:=F) hb) h.sub⟩
theorem KG.kf' {F0 F:Nat→Prop} {w0 w w':World} (h:KG F0 w0 F w) (hk:KF F w w'):KG F0 w0 F w' :=
 ⟨h.sub,fun k hf=>Nat.lt_of_lt_of_le (h.lt k hf) hk.size,KF.trans h.kf hk h.sub⟩
theorem KG.trans {F0 F F':Nat→Prop} {w0 w w':World} (h:KG F0 w0 F w) (h':KG F w F' w'):KG F0 w0 F' w' :=
 ⟨fun k hk=>h'.sub k (h.sub k hk),h'.lt,KF.trans h.kf h'.kf h.sub⟩
structure CF (F:Nat→Prop) (w:World) (b o:Nat) (v:Value):Prop where
 cell:w.cell? ⟨b,o,none⟩=some v
 inF:F b
 lt:b<w.heap.size
theorem CF.up {F:Nat→Prop} {w w':World} {b o:Nat} {v:Value} (h:CF F w b o v) (hb:Below w.heap.size w w'):CF (Fup F w w') w' b o v :=
 ⟨(hb.cell (p:=⟨b,o,none⟩) h.lt).trans h.cell,.inl h.inF,Nat.lt_of_lt_of_le h.lt hb.size⟩
theorem CF.kf {F:Nat→Prop} {w w':World} {b o:Nat} {v:Value} (h:CF F w b o v) (hk:KF F w w'):CF F w' b o v :=
 ⟨(hk.cell h.inF h.lt).trans h.cell,h.inF,Nat.lt_of_lt_of_le h.lt hk.size⟩
theorem CF.mono {F F':Nat→Prop} {w:World} {b o:Nat} {v:Value} (h:CF F w b o v) (hF:∀ k,F k→F' k):CF F' w b o v:=⟨h.cell,hF _ h.inF,h.lt⟩
theorem CF.kg {F F':Nat→Prop} {w w':World} {b o:Nat} {v:Value} (h:CF F w b o v) (hk:KG F w F' w'):CF F' w' b o v:=(h.kf hk.kf).mono hk.sub
theorem fvals_up {F:Nat→Prop} {w w':World} {v:Value} {us:List Value} (h:Rg.FVals F w v us) (hb:Below w.heap.size w w'):Rg.FVals (Fup F w w') w' v us:=by
 obtain ⟨a,cap,h1,h2,h3,h4,h5⟩:=h;refine ⟨a,cap,h1,h2,h3,h4,fun h0=>?_⟩;obtain ⟨b,o,e1,e2,e3,e4⟩:=h5 h0;exact ⟨b,o,e1,Nat.lt_of_lt_of_le e2 hb.size,.inl e3,fun i hi=>(hb.cell (p:=⟨b,o+i,none⟩) e2).trans (e4 i hi)⟩
def FP (F:Nat→Prop) (w:World) (v:Value) (p:List Nat):Prop:=Rg.FI F w v (Ma.ofN p)
theorem FP.np {F:Nat→Prop} {w:World} {v:Value} {p:List Nat} (h:FP F w v p):Rg.NP w v p:=Rg.FI.ints h
theorem FP.up {F:Nat→Prop} {w w':World} {v:Value} {p:List Nat} (h:FP F w v p) (hb:Below w.heap.size w w'):FP (Fup F w w') w' v p:=fvals_up h hb
theorem FP.kf {F:Nat→Prop} {w w':World} {v:Value} {p:List Nat} (h:FP F w v p) (hk:KF F w w'):FP F w' v p:=Rg.FI.kp h hk (fun _ hF hn=>hn hF)
theorem FP.mono {F F':Nat→Prop} {w:World} {v:Value} {p:List Nat} (h:FP F w v p) (hF:∀ k,F k→F' k):FP F' w v p:=Rg.FI.mono h hF
theorem FP.kg {F F':Nat→Prop} {w w':World} {v:Value} {p:List Nat} (h:FP F w v p) (hk:KG F w F' w'):FP F' w' v p:=(h.kf hk.kf).mono hk.sub
theorem FP.new {F:Nat→Prop} {w w':World} {v:Value} {p:List Nat} (h:Rg.NPF w w' v p):FP (Fup F w w') w' v p:=by
 obtain ⟨h,hf⟩:=h;obtain ⟨a,cap,h1,h2,h3,h4,h5⟩:=h;refine ⟨a,cap,h1,h2,h3,h4,fun h0=>?_⟩;obtain ⟨b,o,e1,e2,e3⟩:=h5 h0;subst e1;exact ⟨b,o,rfl,e2,.inr ⟨hf _ _ _ h1,e2⟩,e3⟩
theorem FP.shape {F:Nat→Prop} {w:World} {v:Value} {p:List Nat} (h:FP F w v p) (h1:1≤p.length):∃ b o c,v=.slice (some ⟨b,o,none⟩) p.length c∧F b∧b<w.heap.size∧∀ i (hi:i<p.length),w.cell? ⟨b,o+i,none⟩=some (.int .i64 ((p[i]:Nat):Int)):=by
 obtain ⟨a,cap,e,h2,h3,h4,h5⟩:=h;rw [List.length_map,Ma.len_ofN] at e;obtain ⟨b,o,e1,e2,e3,e4⟩:=h5 (by rw [List.length_map,Ma.len_ofN]; omega);subst e1;exact ⟨b,o,cap,e,e3,e2,fun i hi=>by rw [e4 i (by simp [Ma.len_ofN]; exact hi)]; simp [Ma.ofN]⟩
theorem FP.cell {F:Nat→Prop} {w:World} {b o n c:Nat} {p:List Nat} (h:FP F w (.slice (some ⟨b,o,none⟩) n c) p) {i:Nat} (hi:i<p.length):CF F w b (o+i) (.int .i64 ((p.getD i 0:Nat):Int)):=by
 obtain ⟨b',o',c',e,h1,h2,h3⟩:=h.shape (by omega);simp at e;obtain ⟨⟨rfl,rfl⟩,_,_⟩:=e;exact ⟨by rw [h3 i hi]; simp [List.getD,List.getElem?_eq_getElem hi],h1,h2⟩
structure LV where
 g:Value
 us:List Value
 o:Value
 t:Nat→Value
 b:Nat→Value
open Go.Proofs.Cm (Lv Twr)
def cont (l:Lv) (v:LV) (m:Nat):Value :=
 if m=0 then v.g else if m=1 then v.o else if m<66 then v.t (m - 2) else if m<130 then v.b (m - 66) else .int .i64 ((l.tried (m - 130):Nat):Int)
structure LvOk (F:Nat→Prop) (L:Nat) (w:World) (l:Lv) (v:LV):Prop where
 gown:w.ownsRow 0 51 1 v.g l.gens.length v.us
 gel:Rg.FElts F w v.us (l.gens.map Ma.ofN)
 oown:w.ownsRow 0 3 1 v.o l.orb.length ((Ma.ofN l.orb).map (Value.int .i64))
 gF:∀ k,v.g.ownBlock=some k→¬ F k∧k≠L
 oF:∀ k,v.o.ownBlock=some k→¬ F k∧k≠L
 go:∀ k,v.g.ownBlock=some k→v.o.ownBlock≠some k
 some_:∀ p x,p<64→l.rep p=some x→FP F w (v.t p) x∧FP F w (v.b p) (Ma.invN x)
 none_:∀ p,p<64→l.rep p=none→v.t p=.slice none 0 0∧v.b p=.slice none 0 0
def LV.own (v:LV) (k:Nat):Prop:=v.g.ownBlock=some k∨v.o.ownBlock=some k
structure TowAt (F:Nat→Prop) (L n:Nat) (w:World) (T:Twr) (V:Nat→LV):Prop where
 Flt:∀ k,F k→k<w.heap.size
 LF:¬ F L
 row:w.rowIs L 210 (n*194) (fun j=>cont (T (j / 194)) (V (j / 194)) (j % 194))
 lv:∀ i,i<n→LvOk F L w (T i) (V i)
 dist:∀ i j,i<n→j<n→i≠j→∀ k,(V i).own k→¬ (V j).own k
theorem rowIs_lt {w:World} {b:Nat} {t:TypeId} {n:Nat} {f:Nat→Value} (h:w.rowIs b t n f):b<w.heap.size:=by
 obtain ⟨c,h1,_⟩:=h;exact (Array.getElem?_eq_some_iff.1 h1).1
theorem TowAt.lt {F:Nat→Prop} {L n:Nat} {w:World} {T:Twr} {V:Nat→LV} (h:TowAt F L n w T V):L<w.heap.size:=rowIs_lt h.row
theorem div_mod {i m n:Nat} (hi:i<n) (hm:m<194):(i*194+m) / 194=i∧(i*194+m) % 194=m∧i*194+m<n*194:=by
 refine ⟨by omega,by omega,?_⟩;have:(i+1)*194≤n*194:=Nat.mul_le_mul_right _ hi;omega
theorem TowAt.cell {F:Nat→Prop} {L n:Nat} {w:World} {T:Twr} {V:Nat→LV} (h:TowAt F L n w T V) {i m o:Nat} (hi:i<n) (hm:m<194) (ho:o=i*194+m):w.cell? ⟨L,o,none⟩=some (cont (T i) (V i) m):=by
 subst ho;obtain ⟨h1,h2,h3⟩:=div_mod hi hm;have:=h.row.cell h3;rw [this,h1,h2]
theorem TowAt.frozen {F:Nat→Prop} {L n:Nat} {w:World} {T:Twr} {V:Nat→LV} (h:TowAt F L n w T V) (o:Nat):w.frozen? ⟨L,o,none⟩=false:=h.row.frozen _
theorem LvOk.kp {F M:Nat→Prop} {L:Nat} {w w':World} {l:Lv} {v:LV} (h:LvOk F L w l v) (hk:Rg.Kp M w w') (hF:∀ k,F k→¬ M k) (ho:∀ k,v.own k→¬ M k):LvOk F L w' l v:=by
 refine ⟨rowKp h.gown hk (fun k hm e=>ho k (.inl e) hm),h.gel.kp hk hF,rowKp h.oown hk (fun k hm e=>ho k (.inr e) hm),h.gF,h.oF,h.go,fun p x hp hx=>?_,h.none_⟩;obtain ⟨h1,h2⟩:=h.some_ p x hp hx;exact ⟨Rg.FI.kp h1 hk hF,Rg.FI.kp h2 hk hF⟩
theorem LvOk.mono {F F':Nat→Prop} {L:Nat} {w:World} {l:Lv} {v:LV} (h:LvOk F L w l v) (hF:∀ k,F k→F' k) (ho:∀ k,v.own k→¬ F' k):LvOk F' L w l v:=by
 refine ⟨h.gown,h.gel.mono hF,h.oown,fun k e=>⟨ho k (.inl e),(h.gF k e).2⟩,fun k e=>⟨ho k (.inr e),(h.oF k e).2⟩,h.go,fun p x hp hx=>?_,h.none_⟩;obtain ⟨h1,h2⟩:=h.some_ p x hp hx;exact ⟨h1.mono hF,h2.mono hF⟩
theorem LvOk.lt {F:Nat→Prop} {L:Nat} {w:World} {l:Lv} {v:LV} (h:LvOk F L w l v):∀ k,v.own k→k<w.heap.size:=fun k e=>by
 rcases e with e | e
 ·exact (h.gown.lt k e).2
 ·exact (h.oown.lt k e).2
theorem LvOk.nF {F:Nat→Prop} {L:Nat} {w:World} {l:Lv} {v:LV} (h:LvOk F L w l v):∀ k,v.own k→¬ F k∧k≠L:=fun k e=>by
 rcases e with e | e
 ·exact h.gF _ e
 ·exact h.oF _ e
theorem rowIs_kp {M:Nat→Prop} {w w':World} {b:Nat} {t:TypeId} {n:Nat} {f:Nat→Value} (h:w.rowIs b t n f) (hk:Rg.Kp M w w') (hM:¬ M b):w'.rowIs b t n f:=by
 have hlt:=rowIs_lt h;obtain ⟨c,h1,h2,h3⟩:=h;exact ⟨c,by rw [hk.block b hlt hM]; exact h1,h2,h3⟩
theorem TowAt.up {F:Nat→Prop} {L n:Nat} {w w':World} {T:Twr} {V:Nat→LV} (h:TowAt F L n w T V) (hb:Below w.heap.size w w'):TowAt (Fup F w w') L n w' T V:=by
 have hk:Rg.Kp (fun k=>False) w w':=Rg.Kp.of_below hb;have hL:=h.lt
 refine ⟨fun k hk=>by rcases hk with hk | hk; exact Nat.lt_of_lt_of_le (h.Flt k hk) hb.size; exact hk.2,fun e=>?_,rowIs_kp h.row hk id,fun i hi=>?_,h.dist⟩
 ·rcases e with e | e
  ·exact h.LF e
  ·omega
 ·have hv:=h.lv i hi
  refine (hv.kp hk (fun _ _=>id) (fun _ _=>id)).mono (fun k=>.inl) (fun k e=>?_);have h1:=hv.lt k e;have h2:=(hv.nF k e).1
  rintro (h3 | h3)
  ·exact h2 h3
  ·omega
theorem put2 {F:Nat→Prop} {L n:Nat} {w:World} {T T':Twr} {V V':Nat→LV} {i m o:Nat} {x:Value} (Flt:∀ k,F k→k<w.heap.size) (LF:¬ F L)
  (row:w.rowIs L 210 (n*194) (fun j=>cont (T (j / 194)) (V (j / 194)) (j % 194))) (lv:∀ j,j<n→j≠i→LvOk F L w (T j) (V j))
  (dist:∀ a b,a<n→b<n→a≠b→a≠i→b≠i→∀ k,(V a).own k→¬ (V b).own k) (hi:i<n) (hm:m<194) (ho:o=i*194+m)
  (hT:∀ j,j≠i→T' j=T j∧V' j=V j) (hc:∀ m',m' < 194→cont (T' i) (V' i) m'=if m'=m then x else cont (T i) (V i) m')
  (hv:LvOk F L w (T' i) (V' i)) (hd:∀ j k,j<n→j≠i→(V' i).own k→¬ (V j).own k) :
  TowAt F L n (w.setCell ⟨L,o,none⟩ x) T' V'∧KF F w (w.setCell ⟨L,o,none⟩ x):=by
 subst ho;have hk:Rg.Kp (fun k=>k=L) w (w.setCell ⟨L,i*194+m,none⟩ x):=Rg.Kp.of_setCell rfl;have hFL:∀ k,F k→¬ k=L:=fun k hk e=>LF (e▸hk);refine ⟨⟨fun k hf=>Nat.lt_of_lt_of_le (Flt k hf) hk.size,LF,?_,fun j hj=>?_,fun a b ha hb hab k h1 h2=>?_⟩,Rg.Kp.weak hk fun k e hf=>hFL k hf e⟩
 ·refine (row.set (i*194+m) x).congr fun j hj=>?_
  obtain ⟨h1,h2,_⟩:=div_mod hi hm
  by_cases e:j / 194=i
  ·have hm':j % 194<194:=Nat.mod_lt _ (by decide)
   have:=hc (j % 194) hm'
   by_cases e2:j=i*194+m
   ·rw [if_pos e2,e,this,if_pos (by rw [e2,h2])]
   ·rw [if_neg e2,e,this,if_neg (by omega)]
  ·have e2:j≠i*194+m:=by rintro rfl; exact e h1
   rw [if_neg e2,(hT _ e).1,(hT _ e).2]
 ·by_cases e:j=i
  ·subst e
   exact hv.kp hk hFL fun k e=>(hv.nF k e).2
  ·rw [(hT j e).1,(hT j e).2]
   exact (lv j hj e).kp hk hFL fun k e'=>((lv j hj e).nF k e').2
 ·by_cases ea:a=i
  ·have eb:b≠i:=fun e=>hab (ea.trans e.symm)
   rw [ea] at h1; rw [(hT b eb).2] at h2;exact hd b k hb eb h1 h2
  ·rw [(hT a ea).2] at h1
   by_cases eb:b=i
   ·rw [eb] at h2
    exact hd a k ha ea h2 h1
   ·rw [(hT b eb).2] at h2
    exact dist a b ha hb hab ea eb k h1 h2
theorem TowAt.put {F:Nat→Prop} {L n:Nat} {w:World} {T T':Twr} {V V':Nat→LV} (h:TowAt F L n w T V) {i m o:Nat} {x:Value} (hi:i<n) (hm:m<194) (ho:o=i*194+m)
  (hT:∀ j,j≠i→T' j=T j∧V' j=V j) (hc:∀ m',m' < 194→cont (T' i) (V' i) m'=if m'=m then x else cont (T i) (V i) m')
  (hv:LvOk F L w (T' i) (V' i)) (hd:∀ j k,j<n→j≠i→(V' i).own k→¬ (V j).own k) :
  TowAt F L n (w.setCell ⟨L,o,none⟩ x) T' V'∧KF F w (w.setCell ⟨L,o,none⟩ x) :=
 put2 h.Flt h.LF h.row (fun j hj _=>h.lv j hj) (fun a b ha hb hab _ _=>h.dist a b ha hb hab) hi hm ho hT hc hv hd
theorem TowAt.tick {F:Nat→Prop} {L n:Nat} {w:World} {T:Twr} {V:Nat→LV} (h:TowAt F L n w T V) {i q o:Nat} (hi:i<n) (hq:q<64) (ho:o=i*194+(130+q)) :
  TowAt F L n (w.setCell ⟨L,o,none⟩ (.int .i64 (((T i).tried q+1:Nat):Int))) (Cm.tick T i q) V∧KF F w (w.setCell ⟨L,o,none⟩ (.int .i64 (((T i).tried q+1:Nat):Int))):=by
 have hv:=h.lv i hi;refine h.put hi (by omega) ho (fun j hj=>⟨Cm.tick_ne hj,rfl⟩) (fun m' hm'=>?_) ?_ (fun j k hj hne e1 e2=>h.dist i j hi hj (Ne.symm hne) k e1 e2)
 ·rw [Cm.tick_at]
  unfold cont
  by_cases h0:m'=0
  ·subst h0; simp; omega
  by_cases h1:m'=1
  ·subst h1; simp; omega
  by_cases h2:m' < 66
  ·simp [h0,h1,h2]; omega
  by_cases h3:m' < 130
  ·simp [h0,h1,h2,h3]; omega
  ·simp only [h0,h1,h2,h3,if_false]
   by_cases e:m'=130+q
   ·subst e; simp
   ·rw [if_neg e,if_neg (by omega)]
 ·rw [Cm.tick_at]
  exact ⟨hv.gown,hv.gel,hv.oown,hv.gF,hv.oF,hv.go,hv.some_,hv.none_⟩
def setTo (T:Twr) (i p:Nat) (y:List Nat):Twr:=fun j=>if j=i then { T j with rep:=fun z=>if z=p then some y else (T j).rep z } else T j
def pushO (T:Twr) (i p:Nat):Twr:=fun j=>if j=i then { T j with orb:=(T j).orb++[p] } else T j
def pushG (T:Twr) (i:Nat) (r:List Nat):Twr:=fun j=>if j=i then { T j with gens:=(T j).gens++[r] } else T j
theorem find_eq (T:Twr) (i p:Nat) (y:List Nat):Cm.find T i p y=pushO (setTo T i p y) i p:=by
 funext j
 unfold Cm.find pushO setTo
 by_cases e:j=i
 ·simp [e]
 ·simp [e]
theorem TowAt.setTo {F:Nat→Prop} {L n:Nat} {w:World} {T:Twr} {V:Nat→LV} (h:TowAt F L n w T V) {i p o1 o2:Nat} {y:List Nat} {yv bv:Value} (hi:i<n) (hp:p<64) (ho1:o1=i*194+(2+p)) (ho2:o2=i*194+(66+p))
  (hy:FP F w yv y) (hb:FP F w bv (Ma.invN y)) :
  ∃ V',TowAt F L n ((w.setCell ⟨L,o1,none⟩ yv).setCell ⟨L,o2,none⟩ bv) (setTo T i p y) V'∧KF F w ((w.setCell ⟨L,o1,none⟩ yv).setCell ⟨L,o2,none⟩ bv):=by
 subst ho1 ho2;have hv:=h.lv i hi
 let V1:Nat→LV:=fun j=>if j=i then { V j with t:=fun z=>if z=p then yv else (V j).t z,b:=fun z=>if z=p then bv else (V j).b z } else V j
 have e1:V1 i={ V i with t:=fun z=>if z=p then yv else (V i).t z,b:=fun z=>if z=p then bv else (V i).b z }:=if_pos rfl
 have eT:Go.Proofs.YthehbckogieimaaGreat.setTo T i p y i={ T i with rep:=fun z=>if z=p then some y else (T i).rep z }:=if_pos rfl
 have hk1:Rg.Kp (fun k=>k=L) w (w.setCell ⟨L,i*194+(2+p),none⟩ yv):=Rg.Kp.of_setCell rfl;have hk2:Rg.Kp (fun k=>k=L) (w.setCell ⟨L,i*194+(2+p),none⟩ yv) ((w.setCell ⟨L,i*194+(2+p),none⟩ yv).setCell ⟨L,i*194+(66+p),none⟩ bv):=Rg.Kp.of_setCell rfl;have hk:=Rg.Kp.trans hk1 hk2 (fun k _ e=>e);have hFL:∀ k,F k→¬ k=L:=fun k hk e=>h.LF (e▸hk)
 have hvi:LvOk F L w (Go.Proofs.YthehbckogieimaaGreat.setTo T i p y i) (V1 i):=by
  rw [eT,e1];refine ⟨hv.gown,hv.gel,hv.oown,hv.gF,hv.oF,hv.go,fun z x hz hx=>?_,fun z hz hx=>?_⟩
  ·have hx':(if z=p then some y else (T i).rep z)=some x:=hx
   by_cases e:z=p
   ·rw [if_pos e] at hx'; cases hx'
    simp only [e,if_true]; exact ⟨hy,hb⟩
   ·rw [if_neg e] at hx'
    simp only [e,if_false]; exact hv.some_ z x hz hx'
  ·have hx':(if z=p then some y else (T i).rep z)=none:=hx
   by_cases e:z=p
   ·rw [if_pos e] at hx'; cases hx'
   ·rw [if_neg e] at hx'
    simp only [e,if_false]; exact hv.none_ z hz hx'
 refine ⟨V1,⟨fun k hf=>Nat.lt_of_lt_of_le (h.Flt k hf) hk.size,h.LF,?_,fun j hj=>?_,fun a b ha hb hab k h1 h2=>?_⟩,Rg.Kp.weak hk fun k e hf=>hFL k hf e⟩
 ·refine ((h.row.set (i*194+(2+p)) yv).set (i*194+(66+p)) bv).congr fun j hj=>?_
  have hm':j % 194<194:=Nat.mod_lt _ (by decide)
  by_cases e:j / 194=i
  ·rw [e,eT,e1]
   by_cases a:j=i*194+(66+p)
   ·have:j % 194=66+p:=by omega
    rw [if_pos a,this]; unfold cont;rw [if_neg (by omega),if_neg (by omega),if_neg (by omega),if_pos (by omega)];simp
   ·rw [if_neg a]
    by_cases b:j=i*194+(2+p)
    ·have:j % 194=2+p:=by omega
     rw [if_pos b,this]; unfold cont;rw [if_neg (by omega),if_neg (by omega),if_pos (by omega)];simp
    ·rw [if_neg b]
     unfold cont
     by_cases h0:j % 194=0
     ·simp [h0]
     by_cases h1:j % 194=1
     ·simp [h1]
     by_cases h2:j % 194<66
     ·simp only [h0,h1,h2,if_false,if_true]
      show _=(if j % 194 - 2=p then yv else (V i).t (j % 194 - 2));rw [if_neg (by omega)]
     by_cases h3:j % 194<130
     ·simp only [h0,h1,h2,h3,if_false,if_true]
      show _=(if j % 194 - 66=p then bv else (V i).b (j % 194 - 66));rw [if_neg (by omega)]
     ·simp [h0,h1,h2,h3]
  ·have ev:V1 (j / 194)=V (j / 194):=if_neg e
   have et:Go.Proofs.YthehbckogieimaaGreat.setTo T i p y (j / 194)=T (j / 194):=if_neg e;rw [if_neg (by rintro rfl; exact e (div_mod hi (by omega)).1),if_neg (by rintro rfl; exact e (div_mod hi (by omega)).1),ev,et]
 ·by_cases e:j=i
  ·subst e
   exact hvi.kp hk hFL fun k e=>(hvi.nF k e).2
  ·have ev:V1 j=V j:=if_neg e
   have et:Go.Proofs.YthehbckogieimaaGreat.setTo T i p y j=T j:=if_neg e;rw [ev,et];exact (h.lv j hj).kp hk hFL fun k e=>((h.lv j hj).nF k e).2
 ·have ho:∀ j k,(V1 j).own k→(V j).own k:=fun j k hk=>by
   by_cases e:j=i
   ·subst e; rw [e1] at hk; exact hk
   ·have ev:V1 j=V j:=if_neg e
    rwa [ev] at hk
  exact h.dist a b ha hb hab k (ho a k h1) (ho b k h2)
theorem getTo {F:Nat→Prop} {L n:Nat} {w:World} {T:Twr} {V:Nat→LV} (h:TowAt F L n w T V) {i p o:Nat} (hi:i<n) (hp:p<64) (ho:o=i*194+(2+p)):w.cell? ⟨L,o,none⟩=some ((V i).t p):=by
 rw [h.cell hi (m:=2+p) (by omega) ho];unfold cont;rw [if_neg (by omega),if_neg (by omega),if_pos (by omega),show 2+p - 2=p by omega]
theorem getBy {F:Nat→Prop} {L n:Nat} {w:World} {T:Twr} {V:Nat→LV} (h:TowAt F L n w T V) {i p o:Nat} (hi:i<n) (hp:p<64) (ho:o=i*194+(66+p)):w.cell? ⟨L,o,none⟩=some ((V i).b p):=by
 rw [h.cell hi (m:=66+p) (by omega) ho];unfold cont;rw [if_neg (by omega),if_neg (by omega),if_neg (by omega),if_pos (by omega),show 66+p - 66=p by omega]
theorem getTried {F:Nat→Prop} {L n:Nat} {w:World} {T:Twr} {V:Nat→LV} (h:TowAt F L n w T V) {i p o:Nat} (hi:i<n) (hp:p<64) (ho:o=i*194+(130+p)):w.cell? ⟨L,o,none⟩=some (.int .i64 (((T i).tried p:Nat):Int)):=by
 rw [h.cell hi (m:=130+p) (by omega) ho];unfold cont;rw [if_neg (by omega),if_neg (by omega),if_neg (by omega),if_neg (by omega),show 130+p - 130=p by omega]
theorem getG {F:Nat→Prop} {L n:Nat} {w:World} {T:Twr} {V:Nat→LV} (h:TowAt F L n w T V) {i o:Nat} (hi:i<n) (ho:o=i*194):w.cell? ⟨L,o,none⟩=some (V i).g:=by
 rw [h.cell hi (m:=0) (by omega) ho]; rfl
theorem getO {F:Nat→Prop} {L n:Nat} {w:World} {T:Twr} {V:Nat→LV} (h:TowAt F L n w T V) {i o:Nat} (hi:i<n) (ho:o=i*194+1):w.cell? ⟨L,o,none⟩=some (V i).o:=by
 rw [h.cell hi (m:=1) (by omega) ho]; rfl
end Go.Proofs.YthehbckogieimaaGreat

namespace Go.Proofs.YthehbckogieimaaGreat
open Go.RowKit
open Go.Proofs
open Go.Proofs.Cm (Lv Twr)
attribute [local irreducible] Go.Calls
theorem TowAt.addG {F:Nat→Prop} {L n:Nat} {w:World} {T:Twr} {V:Nat→LV} (h:TowAt F L n w T V) {i o:Nat} (hi:i<n) (ho:o=i*194) {r:List Nat} {rv:Value} (hr:FP F w rv r) (hs:∃ a m c,rv=.slice a m c) (hl:(T i).gens.length<1000000) (ty:TypeId) :
  ∃ a c X,(Builtin.append_ #[22,22] ty #[(V i).g,.slice (some ⟨w.heap.size,0,none⟩) 1 1]).run Tryz.prog (w.alloc (.cells #[rv] 51))=.ok (.slice a ((T i).gens.length+1) c) X ∧
   X.cell? ⟨L,o,none⟩=some (V i).g∧X.frozen? ⟨L,o,none⟩=false∧∃ V',TowAt F L n (X.setCell ⟨L,o,none⟩ (.slice a ((T i).gens.length+1) c)) (pushG T i r) V'∧KF F w (X.setCell ⟨L,o,none⟩ (.slice a ((T i).gens.length+1) c)):=by
 subst ho;have hv:=h.lv i hi;obtain ⟨a0,m0,c0,rfl⟩:=hs;have hk1:Rg.Kp (fun _=>False) w (w.alloc (.cells #[.slice a0 m0 c0] 51)):=Rg.Kp.of_below ((Below.refl _ _).alloc (Nat.le_refl _) _)
 have hsz:(w.alloc (.cells #[.slice a0 m0 c0] 51)).heap.size=w.heap.size+1:=by simp
 have hv1:=hv.kp hk1 (fun _ _=>id) (fun _ _=>id);obtain ⟨v',X,r1,r2,r3,r4,a,c,rfl⟩:=app_run (P:=Tryz.prog) slPerms ty hv1.gown (Nat.zero_le _) w.heap.size 1 (u:=.slice a0 m0 c0) (by rw [Rg.cellNew]; rfl) rfl hl;have hkX:Rg.Kp (fun k=>(V i).g.ownBlock=some k) w X:=Rg.Kp.trans (M:=fun k=>(V i).g.ownBlock=some k) (hk1.weak fun _=>False.elim) (Rg.Kp.of_grown r3 fun _ e=>e) (fun _ _ e=>e);have hFo:∀ k,F k→¬ (V i).g.ownBlock=some k:=fun k hk e=>(hv.gF k e).1 hk;have hLo:¬ (V i).g.ownBlock=some L:=fun e=>(hv.gF L e).2 rfl
 have hcX:X.cell? ⟨L,i*194,none⟩=some (V i).g:=by
  rw [World.cell?_of_block (w:=w) (a:=⟨L,i*194,none⟩) (hkX.block L h.lt hLo)];exact getG h hi rfl
 have hrow:=rowIs_kp h.row hkX hLo
 refine ⟨a,c,X,r1,hcX,hrow.frozen _,fun j=>if j=i then { V i with g:=.slice a ((T i).gens.length+1) c,us:=(V i).us++[.slice a0 m0 c0] } else V j,?_⟩
 have hnew:∀ k,(Value.slice a ((T i).gens.length+1) c).ownBlock=some k→(V i).g.ownBlock=some k∨k=w.heap.size+1:=fun k e=>by
  rcases r4 with r4 | r4
  ·exact .inl (by rw [← r4]; exact e)
  ·rw [r4] at e; injection e with e; exact .inr (by omega)
 have hres:=put2 (T:=T) (T':=pushG T i r) (V:=V) (V':=fun j=>if j=i then { V i with g:=.slice a ((T i).gens.length+1) c,us:=(V i).us++[.slice a0 m0 c0] } else V j) (x:=.slice a ((T i).gens.length+1) c)
  (fun k hk=>Nat.lt_of_lt_of_le (h.Flt k hk) hkX.size) h.LF hrow (fun j hj hne=>(h.lv j hj).kp hkX hFo (fun k e e2=>h.dist j i hj hi hne k e (.inl e2)))
  (fun a b ha hb hab _ _=>h.dist a b ha hb hab) hi (m:=0) (by omega) rfl (fun j hj=>⟨if_neg hj,if_neg hj⟩) ?_ ?_ ?_
 ·exact ⟨hres.1,Rg.Kp.trans (hkX.weak fun k e hf=>hFo k hf e) hres.2 (fun _ _ e=>e)⟩
 ·intro m' hm'
  simp only [if_true,pushG];unfold cont
  by_cases h0:m'=0
  ·simp [h0]
  by_cases h1:m'=1
  ·simp [h1]
  ·simp [h0,h1]
 ·simp only [if_true,pushG]
  have hF:=hv.kp (M:=fun _=>False) (w':=w) (Rg.Kp.refl _ _) (fun _ _=>id) (fun _ _=>id);have hlt:=hv.lt;have hs2:=fun q x hq hx=>(hv.some_ q x hq hx);refine ⟨?_,?_,?_,?_,hv.oF,?_,fun q x hq hx=>⟨Rg.FI.kp (hs2 q x hq hx).1 hkX hFo,Rg.FI.kp (hs2 q x hq hx).2 hkX hFo⟩,hv.none_⟩
  ·rw [List.length_append]; exact r2
  ·rw [List.map_append]
   exact (hv.gel.kp hkX hFo).app (Rg.FElts.one (Rg.FI.kp hr hkX hFo))
  ·exact rowKp hv.oown hkX (fun k e e2=>hv.go k e e2)
  ·intro k e
   rcases hnew k e with e | e
   ·exact hv.gF k e
   ·exact ⟨fun hf=>by have:=h.Flt k hf; omega,by have:=h.lt; omega⟩
  ·intro k e e2
   rcases hnew k e with e | e
   ·exact hv.go k e e2
   ·have:=hlt k (.inr e2); omega
 ·intro j k hj hne e
  simp only [if_true] at e
  rcases e with e | e
  ·rcases hnew k e with e | e
   ·exact h.dist i j hi hj (Ne.symm hne) k (.inl e)
   ·intro e2; have:=(h.lv j hj).lt k e2; omega
  ·exact h.dist i j hi hj (Ne.symm hne) k (.inr e)
theorem TowAt.addO {F:Nat→Prop} {L n:Nat} {w:World} {T:Twr} {V:Nat→LV} (h:TowAt F L n w T V) {i o:Nat} (hi:i<n) (ho:o=i*194+1) (p:Nat) (hl:(T i).orb.length<1000000) (ty:TypeId) :
  ∃ a c X,(Builtin.append_ #[36,36] ty #[(V i).o,.slice (some ⟨w.heap.size,0,none⟩) 1 1]).run Tryz.prog (w.alloc (.cells #[.int .i64 ((p:Nat):Int)] 3))=.ok (.slice a ((T i).orb.length+1) c) X ∧
   X.cell? ⟨L,o,none⟩=some (V i).o∧X.frozen? ⟨L,o,none⟩=false∧∃ V',TowAt F L n (X.setCell ⟨L,o,none⟩ (.slice a ((T i).orb.length+1) c)) (pushO T i p) V'∧KF F w (X.setCell ⟨L,o,none⟩ (.slice a ((T i).orb.length+1) c)):=by
 subst ho;have hv:=h.lv i hi;have hk1:Rg.Kp (fun _=>False) w (w.alloc (.cells #[.int .i64 ((p:Nat):Int)] 3)):=Rg.Kp.of_below ((Below.refl _ _).alloc (Nat.le_refl _) _)
 have hsz:(w.alloc (.cells #[.int .i64 ((p:Nat):Int)] 3)).heap.size=w.heap.size+1:=by simp
 have hv1:=hv.kp hk1 (fun _ _=>id) (fun _ _=>id);obtain ⟨v',X,r1,r2,r3,r4,a,c,rfl⟩:=app_run (P:=Tryz.prog) slInts ty hv1.oown (Nat.zero_le _) w.heap.size 1 (u:=.int .i64 ((p:Nat):Int)) (by rw [Rg.cellNew]; rfl) rfl hl;have hkX:Rg.Kp (fun k=>(V i).o.ownBlock=some k) w X:=Rg.Kp.trans (M:=fun k=>(V i).o.ownBlock=some k) (hk1.weak fun _=>False.elim) (Rg.Kp.of_grown r3 fun _ e=>e) (fun _ _ e=>e);have hFo:∀ k,F k→¬ (V i).o.ownBlock=some k:=fun k hk e=>(hv.oF k e).1 hk;have hLo:¬ (V i).o.ownBlock=some L:=fun e=>(hv.oF L e).2 rfl
 have hcX:X.cell? ⟨L,i*194+1,none⟩=some (V i).o:=by
  rw [World.cell?_of_block (w:=w) (a:=⟨L,i*194+1,none⟩) (hkX.block L h.lt hLo)];exact getO h hi rfl
 have hrow:=rowIs_kp h.row hkX hLo
 refine ⟨a,c,X,r1,hcX,hrow.frozen _,fun j=>if j=i then { V i with o:=.slice a ((T i).orb.length+1) c } else V j,?_⟩
 have hnew:∀ k,(Value.slice a ((T i).orb.length+1) c).ownBlock=some k→(V i).o.ownBlock=some k∨k=w.heap.size+1:=fun k e=>by
  rcases r4 with r4 | r4
  ·exact .inl (by rw [← r4]; exact e)
  ·rw [r4] at e; injection e with e; exact .inr (by omega)
 have hres:=put2 (T:=T) (T':=pushO T i p) (V:=V) (V':=fun j=>if j=i then { V i with o:=.slice a ((T i).orb.length+1) c } else V j) (x:=.slice a ((T i).orb.length+1) c)
  (fun k hk=>Nat.lt_of_lt_of_le (h.Flt k hk) hkX.size) h.LF hrow (fun j hj hne=>(h.lv j hj).kp hkX hFo (fun k e e2=>h.dist j i hj hi hne k e (.inr e2)))
  (fun a b ha hb hab _ _=>h.dist a b ha hb hab) hi (m:=1) (by omega) rfl (fun j hj=>⟨if_neg hj,if_neg hj⟩) ?_ ?_ ?_
 ·exact ⟨hres.1,Rg.Kp.trans (hkX.weak fun k e hf=>hFo k hf e) hres.2 (fun _ _ e=>e)⟩
 ·intro m' hm'
  simp only [if_true,pushO];unfold cont
  by_cases h0:m'=0
  ·simp [h0]
  by_cases h1:m'=1
  ·simp [h1]
  ·simp [h0,h1]
 ·simp only [if_true,pushO]
  have hF:=hv.kp (M:=fun _=>False) (w':=w) (Rg.Kp.refl _ _) (fun _ _=>id) (fun _ _=>id);have hlt:=hv.lt;have hs2:=fun q x hq hx=>(hv.some_ q x hq hx);refine ⟨?_,hv.gel.kp hkX hFo,?_,hv.gF,?_,?_,fun q x hq hx=>⟨Rg.FI.kp (hs2 q x hq hx).1 hkX hFo,Rg.FI.kp (hs2 q x hq hx).2 hkX hFo⟩,hv.none_⟩
  ·exact rowKp hv.gown hkX (fun k e e2=>hv.go k e2 e)
  ·have e1:(Ma.ofN ((T i).orb++[p])).map (Value.int .i64)=(Ma.ofN (T i).orb).map (Value.int .i64)++[.int .i64 ((p:Nat):Int)]:=by simp [Ma.ofN]
   rw [e1,List.length_append]; exact r2
  ·intro k e
   rcases hnew k e with e | e
   ·exact hv.oF k e
   ·exact ⟨fun hf=>by have:=h.Flt k hf; omega,by have:=h.lt; omega⟩
  ·intro k e e2
   rcases hnew k e2 with e2 | e2
   ·exact hv.go k e e2
   ·have:=hlt k (.inl e); omega
 ·intro j k hj hne e
  simp only [if_true] at e
  rcases e with e | e
  ·exact h.dist i j hi hj (Ne.symm hne) k (.inl e)
  ·rcases hnew k e with e | e
   ·exact h.dist i j hi hj (Ne.symm hne) k (.inr e)
   ·intro e2; have:=(h.lv j hj).lt k e2; omega
theorem lvF0 (b o:Nat) (w:World):(Instr.fieldAt 210 (.pointer (some ⟨b,o,none⟩)) 0).run Tryz.prog w=.ok (.pointer (some ⟨b,o,none⟩)) w:=by kernel_rfl
theorem lvF1 (b o:Nat) (w:World):(Instr.fieldAt 210 (.pointer (some ⟨b,o,none⟩)) 1).run Tryz.prog w=.ok (.pointer (some ⟨b,o+1,none⟩)) w:=by kernel_rfl
theorem lvF2 (b o:Nat) (w:World):(Instr.fieldAt 210 (.pointer (some ⟨b,o,none⟩)) 2).run Tryz.prog w=.ok (.pointer (some ⟨b,o+2,none⟩)) w:=by kernel_rfl
theorem lvF3 (b o:Nat) (w:World):(Instr.fieldAt 210 (.pointer (some ⟨b,o,none⟩)) 3).run Tryz.prog w=.ok (.pointer (some ⟨b,o+66,none⟩)) w:=by kernel_rfl
theorem lvF4 (b o:Nat) (w:World):(Instr.fieldAt 210 (.pointer (some ⟨b,o,none⟩)) 4).run Tryz.prog w=.ok (.pointer (some ⟨b,o+130,none⟩)) w:=by kernel_rfl
theorem towF0 (b:Nat) (w:World):(Instr.fieldAt 202 (.pointer (some ⟨b,0,none⟩)) 0).run Tryz.prog w=.ok (.pointer (some ⟨b,0,none⟩)) w:=by kernel_rfl
theorem towF1 (b:Nat) (w:World):(Instr.fieldAt 202 (.pointer (some ⟨b,0,none⟩)) 1).run Tryz.prog w=.ok (.pointer (some ⟨b,1,none⟩)) w:=by kernel_rfl
theorem szLevel:(Tryz.prog.info? 210).map (·.size)=some 194:=by kernel_rfl
theorem exec_indexZ {o:Oper} {a:Act} {w:World} {t e:TypeId} {z:Nat} (x y:Operand) (ho:o.op=.indexAddr t x y) (hu:Tryz.prog.underlying t=some (.slice e)) (hsz:(Tryz.prog.info? e).map (·.size)=some z) (b of len cap i:Nat) (hx:a.eval x=.slice (some ⟨b,of,none⟩) len cap) (hy:a.eval y=.int .i64 (i:Int)) (hi:i<len) :
  (execOp a.eval o).run Tryz.prog w=.ok (.value (.pointer (some ⟨b,of+i*z,none⟩))) w:=by
 obtain ⟨ie,hie,hs⟩:=Option.map_eq_some_iff.1 hsz;have h1:(0:Int)≤(i:Int)∧(i:Int)<(len:Int):=⟨by omega,by omega⟩
 have hr:(Instr.indexAt t (.slice (some ⟨b,of,none⟩) len cap) (.int .i64 (i:Int))).run Tryz.prog w=.ok (.pointer (some ⟨b,of+i*z,none⟩)) w:=by
  simp [Instr.indexAt,asIntOf,run_underlying hu,sizeOf,typeInfo,hie,hs,h1];rw [if_pos hi];unfold Addr.add
  split
  ·rename_i h0; rw [h0]; rfl
  ·rfl
 unfold execOp;simp only [ho,hx,hy,Sem.run_bind,Sem.run_pure,hr,Result.andThen_ok]
theorem exec_indexZ0 {o:Oper} {a:Act} {w:World} {t e:TypeId} {z:Nat} (x y:Operand) (ho:o.op=.indexAddr t x y) (hu:Tryz.prog.underlying t=some (.slice e)) (hsz:(Tryz.prog.info? e).map (·.size)=some z) (b len cap i:Nat) (hx:a.eval x=.slice (some ⟨b,0,none⟩) len cap) (hy:a.eval y=.int .i64 (i:Int)) (hi:i<len) :
  (execOp a.eval o).run Tryz.prog w=.ok (.value (.pointer (some ⟨b,i*z,none⟩))) w:=by
 have:=exec_indexZ (w:=w) x y ho hu hsz b 0 len cap i hx hy hi
 rwa [Nat.zero_add] at this
theorem chMul_f {F:Nat→Prop} {n:Nat} {v1 v2:Value} {a b:List Nat} {w:World} (h1:FP F w v1 a) (h2:FP F w v2 b) (ga:Cm.Gd n a) (gb:Cm.Gd n b) (hn:1≤n) (hn2:n≤64) :
  Calls Tryz.prog 183 #[v1,v2] w fun e w'=>∃ v,e=.returned v∧FP (Fup F w w') w' v (Ma.mulN a b)∧Below w.heap.size w w':=by
 have e1:=ga.2;have e2:=gb.2;refine (chMul_any v1 v2 a b w h1.np h2.np (fun x hx=>by have:=ga.1.1 x hx; omega) (by omega) (by omega) (by omega)).mono ?_;rintro e w' ⟨v,rfl,hv,hb⟩;exact ⟨v,rfl,FP.new hv,hb⟩
theorem chInv_f {F:Nat→Prop} {n:Nat} {v1:Value} {a:List Nat} {w:World} (h1:FP F w v1 a) (ga:Cm.Gd n a) (hn:1≤n) (hn2:n≤64) :
  Calls Tryz.prog 184 #[v1] w fun e w'=>∃ v,e=.returned v∧FP (Fup F w w') w' v (Ma.invN a)∧Below w.heap.size w w':=by
 have e1:=ga.2;refine (chInv_any v1 a w h1.np ga.1 (by omega) (by omega)).mono ?_;rintro e w' ⟨v,rfl,hv,hb⟩;exact ⟨v,rfl,FP.new hv,hb⟩
theorem chOne_f {F:Nat→Prop} (n:Nat) (w:World) (hn2:n≤64) :
  Calls Tryz.prog 122 #[.int .i64 n] w fun e w'=>∃ v,e=.returned v∧FP (Fup F w w') w' v (Ma.oneN n)∧Below w.heap.size w w':=by
 refine (chOne_any n w (by omega)).mono ?_;rintro e w' ⟨v,rfl,hv,hb⟩;exact ⟨v,rfl,FP.new hv,hb⟩
end Go.Proofs.YthehbckogieimaaGreat

namespace Go.Proofs.YthehbckogieimaaGreat
open Go.RowKit
open Go.Proofs
open Go.Proofs.Cm (Lv Twr trOf)
attribute [local irreducible] Go.Calls
theorem Vmcl0 (args:Array Value) (w:World):(callFunc 183 args).run Tryz.prog w=.ok (.enter 183 args) w:=by kernel_rfl
theorem exec_nilT {o:Oper} {a:Act} {w:World} (x y:Operand) (ho:o.op=.binOp .eql 51 x y 51) (hx:a.eval x=.slice none 0 0) (hy:a.eval y=.slice none 0 0):(execOp a.eval o).run Tryz.prog w=.ok (.value (.bool true)) w:=by
 have h1:(binOp .eql 51 (.slice none 0 0) (.slice none 0 0)).run Tryz.prog w=.ok (.bool true) w:=by kernel_rfl
 have hg:(eqGuard .eql 51 x y (.slice none 0 0) (.slice none 0 0)).run Tryz.prog w=.ok () w:=by
  simp [eqGuard]
 unfold execOp;simp only [ho,hx,hy,Sem.run_bind,Sem.run_pure,hg,h1,Result.andThen_ok]
theorem exec_nilF {o:Oper} {a:Act} {w:World} {ad:Addr} {n c:Nat} (x y:Operand) (ho:o.op=.binOp .eql 51 x y 51) (hx:a.eval x=.slice (some ad) n c) (hy:a.eval y=.slice none 0 0):(execOp a.eval o).run Tryz.prog w=.ok (.value (.bool false)) w:=by
 have h1:(binOp .eql 51 (.slice (some ad) n c) (.slice none 0 0)).run Tryz.prog w=.ok (.bool false) w:=by kernel_rfl
 have hg:(eqGuard .eql 51 x y (.slice (some ad) n c) (.slice none 0 0)).run Tryz.prog w=.ok () w:=by
  simp [eqGuard]
 unfold execOp;simp only [ho,hx,hy,Sem.run_bind,Sem.run_pure,hg,h1,Result.andThen_ok]
theorem TowAt.byS {F:Nat→Prop} {L n:Nat} {w:World} {T:Twr} {V:Nat→LV} (h:TowAt F L n w T V) {i p:Nat} (hi:i<n) (hp:p<64) {u:List Nat} (hu:trOf T i p=some u) (gu:Cm.Gd n u) (hn:1≤n):∃ b o c,(V i).b p=.slice (some ⟨b,o,none⟩) n c∧FP F w (.slice (some ⟨b,o,none⟩) n c) (Ma.invN u):=by
 have h1:=((h.lv i hi).some_ p u hp hu).2;obtain ⟨b,o,c,e,_⟩:=h1.shape (by rw [(Cm.gd_inv gu).2]; exact hn);rw [(Cm.gd_inv gu).2] at e;exact ⟨b,o,c,e,by rw [← e]; exact h1⟩
theorem TowAt.toS {F:Nat→Prop} {L n:Nat} {w:World} {T:Twr} {V:Nat→LV} (h:TowAt F L n w T V) {i p:Nat} (hi:i<n) (hp:p<64) {u:List Nat} (hu:trOf T i p=some u) (gu:Cm.Gd n u) (hn:1≤n):∃ b o c,(V i).t p=.slice (some ⟨b,o,none⟩) n c∧FP F w (.slice (some ⟨b,o,none⟩) n c) u:=by
 have h1:=((h.lv i hi).some_ p u hp hu).1;obtain ⟨b,o,c,e,_⟩:=h1.shape (by rw [gu.2]; exact hn);rw [gu.2] at e;exact ⟨b,o,c,e,by rw [← e]; exact h1⟩
theorem FP.shape' {F:Nat→Prop} {n:Nat} {w:World} {v:Value} {p:List Nat} (h:FP F w v p) (gp:Cm.Gd n p) (hn:1≤n):∃ b o c,v=.slice (some ⟨b,o,none⟩) n c:=by
 obtain ⟨b,o,c,e,_⟩:=h.shape (by rw [gp.2]; exact hn);rw [gp.2] at e;exact ⟨b,o,c,e⟩
theorem FP.ap {F:Nat→Prop} {n:Nat} {w:World} {b o m c:Nat} {p:List Nat} (h:FP F w (.slice (some ⟨b,o,none⟩) m c) p) (gp:Cm.Gd n p) {i:Nat} (hi:i<n):CF F w b (o+i) (.int .i64 ((Cm.ap p i:Nat):Int)):=h.cell (by rw [gp.2]; exact hi)
theorem sift_any {F:Nat→Prop} {L n tb:Nat} {w:World} {T:Twr} {V:Nat→LV} (hT:TowAt F L n w T V) (hc0:CF F w tb 0 (.int .i64 ((n:Nat):Int))) (hc1:CF F w tb 1 (.slice (some ⟨L,0,none⟩) n n)) (hn1:1≤n) (hn2:n≤64)
  {xv:Value} {x:List Nat} {i0:Nat} (hx:FP F w xv x) (gx:Cm.Gd n x) (hi0:i0≤n) (hfx:Cm.Fx i0 x) (hr:Cm.Rp n i0 (trOf T)) :
  Calls Tryz.prog 261 #[.pointer (some ⟨tb,0,none⟩),xv,.int .i64 ((i0:Nat):Int)] w fun e w'=>∃ F' rv,e=.returned (.tuple #[.int .i64 (((Cm.sfP n (trOf T) (n - i0) x).1:Nat):Int),rv])∧KG F w F' w'∧TowAt F' L n w' T V∧FP F' w' rv (Cm.sfP n (trOf T) (n - i0) x).2∧Below w.heap.size w w':=by
 obtain ⟨xb0,xo0,xc0,rfl⟩:=hx.shape' gx hn1;have K:=ι (KG.refl hT.Flt);have HT:=ι hT;have C0:=ι hc0;have C1:=ι hc1;have X:=ι hx;have HR:=ι hr;obtain ⟨A,hA⟩:∃ A,Hid (A=Cm.sfP n (trOf T) (n - i0) x):=⟨_,ι rfl⟩;rw [← hA.out];have KB:=ι (Below.refl w.heap.size w);have hg0:=hc0.cell;have hS0:=ι hA.out.symm;clear hT hc0 hc1 hx hr
 go_enter Tryz.func261,Tryz.ntmps261
 go_wp2
 go_loopw [1,8] (fun yv iv wr=>∃ (i:Nat) (y:List Nat) (F1:Nat→Prop),i0≤i∧i≤n∧iv=.int .i64 i∧Hid (FP F1 wr yv y)∧Hid (TowAt F1 L n wr T V)∧Hid (CF F1 wr tb 0 (.int .i64 ((n:Nat):Int)))∧Hid (CF F1 wr tb 1 (.slice (some ⟨L,0,none⟩) n n))∧Hid (KG F w F1 wr)∧Hid (Below w.heap.size w wr)∧Hid (Cm.Gd n y)∧Hid (Cm.Fx i y)∧Hid (Cm.sfP n (trOf T) (n - i) y=A)) (fun _ iv _=>n - (intOf iv).toNat)
 case atStart=>exact ⟨i0,x,F,Nat.le_refl _,hi0,rfl,X,HT,C0,C1,K,KB,ι gx,ι hfx,hS0⟩
 case round =>
  clear X HT C0 C1 K KB hg0 hS0 hfx gx;obtain ⟨i,y,F,hi1,hi2,rfl,X,HT,C0,C1,K,KB,GY,FY,HS⟩:=hrel;have hg0:=C0.out.cell
  by_cases hin:i<n
  ·have hiN:(i:Int)<(n:Int):=by omega
   obtain ⟨xb,xo,xc,rfl⟩:=X.out.shape' GY.out hn1;have hqn:=Cm.ap_lt GY.out hin;obtain ⟨q,hq⟩:∃ q:Nat,Hid (q=Cm.ap y i):=⟨_,ι rfl⟩;rw [← hq.out] at hqn;have CX:=ι (show CF F wr xb (xo+i) (.int .i64 ((q:Nat):Int)) by rw [hq.out]; exact X.out.ap GY.out hin)
   have hq64:q<64:=by omega
   have HIN:=ι hin
   cases htr:trOf T i q with
   | none =>
    have hby:=((HT.out.lv i hin).none_ q hq64 htr).2;have CB:=ι (show wr.cell? ⟨L,i*194+66+q,none⟩=some (.slice none 0 0) by rw [getBy HT.out hin hq64 (by omega),hby])
    have HE:=ι (show A=(i,y) by
     rw [← HS.out]
     have e1:n - i=(n - i - 1)+1:=by omega
     rw [e1,Cm.sfP_none]
     ·rw [show n - (n - i - 1+1)=i by omega]
     ·rw [show n - (n - i - 1+1)=i by omega,← hq.out]; exact htr)
    have hLlt:=ι HT.out.lt;clear hby htr;go_upto_region 4 with (fail);have hV1:Below wr.heap.size wr wr.drew:=(Below.refl _ _).drew;replace HT:=ι (HT.out.up hV1);replace KB:=ι (Rg.acc KB.out hV1);replace CB:=ι ((hV1.cell (p:=⟨L,i*194+66+q,none⟩) hLlt.out).trans CB.out);replace hLlt:=ι (Nat.lt_of_lt_of_le hLlt.out hV1.size);clear hV1;have hV0:Below wr.heap.size wr wr.drew:=(Below.refl _ _).drew;replace X:=ι (X.out.up hV0);replace C0:=ι (C0.out.up hV0);replace C1:=ι (C1.out.up hV0);replace CX:=ι (CX.out.up hV0);replace K:=ι (K.out.up hV0);generalize Fup F wr wr.drew=F1 at *;clear hV0;refine Rg.Any.begin (S:=Rg.Both 13 (fun _=>True) (fun W=>Below wr.drew.heap.size wr.drew W)) mix ?_;generalize wr.drew=w1 at *;have hS:∀ (l:Array Bool) W,Below w1.heap.size w1 W→Rg.Both 13 (fun _=>True) (fun W=>Below w1.heap.size w1 W) l W:=fun l W h=>⟨.inr trivial,h⟩
    have hI:Below w1.heap.size w1 w1:=Below.refl _ _;refine Rg.tm 0 13 (.pointer (some ⟨tb,0,none⟩)) 19 (hS _ _ hI) ?_;go_frame;refine Rg.tg 1 13 (.pointer (some ⟨tb,0,none⟩)) 20 rfl rfl (.inl ⟨rfl,fun w _=>exec_nil _ rfl rfl⟩) (hS _ _ hI) ?_;go_frame;refine Rg.tg 2 13 (.pointer (some ⟨tb,1,none⟩)) 21 rfl rfl (.inl ⟨rfl,fun w _=>exec_field _ rfl rfl (towF1 _ _)⟩) (hS _ _ hI) ?_;go_frame;refine Rg.tg 3 13 (.slice (some ⟨L,0,none⟩) n n) 22 rfl rfl (Rg.yields_cell _ _ rfl rfl ⟨tb,1,none⟩ rfl (fun W hW=>Rg.run_loadSl _ _ Tryz.underlying200 ((Below.cell (p:=⟨tb,1,none⟩) hW C1.out.lt).trans C1.out.cell))) (hS _ _ hI) ?_;go_frame;refine Rg.tm 4 13 (.int .i64 ((i:Nat):Int)) 23 (hS _ _ hI) ?_;go_frame;refine Rg.tm 5 13 (.slice (some ⟨xb,xo,none⟩) n xc) 24 (hS _ _ hI) ?_;go_frame;refine Rg.tm 6 13 (.int .i64 ((i:Nat):Int)) 25 (hS _ _ hI) ?_;go_frame;refine Rg.tg 7 13 (.pointer (some ⟨xb,xo+i,none⟩)) 26 rfl rfl (Rg.yields_index slPerm _ _ rfl rfl xb (xo) (n) xc (i) rfl rfl HIN.out) (hS _ _ hI) ?_;go_frame
    refine Rg.tg 8 13 (.int .i64 ((q:Nat):Int)) 27 rfl rfl (Rg.yields_cell _ _ rfl rfl ⟨xb,xo+i,none⟩ rfl (fun W hW=>run_loadInt ((Below.cell (p:=⟨xb,xo+i,none⟩) hW CX.out.lt).trans CX.out.cell))) (hS _ _ hI) ?_;go_frame;refine Rg.tg 9 13 (.pointer (some ⟨L,i*194,none⟩)) 28 rfl rfl (.inl ⟨rfl,fun w _=>exec_indexZ0 _ _ rfl Tryz.underlying200 szLevel L (n) (n) (i) rfl rfl HIN.out⟩) (hS _ _ hI) ?_;go_frame;refine Rg.tg 10 13 (.pointer (some ⟨L,i*194+66,none⟩)) 29 rfl rfl (.inl ⟨rfl,fun w _=>exec_field _ rfl rfl (lvF3 _ _ _)⟩) (hS _ _ hI) ?_;go_frame;refine Rg.tg 11 13 (.pointer (some ⟨L,i*194+66+q,none⟩)) 30 rfl rfl (.inl ⟨rfl,fun w _=>exec_indexArr _ _ rfl Tryz.underlying207 szP L (i*194+66) (q) rfl rfl hq64⟩) (hS _ _ hI) ?_;go_frame;refine Rg.tg 12 13 (.slice none 0 0) 31 rfl rfl (Rg.yields_cell _ _ rfl rfl ⟨L,i*194+66+q,none⟩ rfl (fun W hW=>Rg.run_loadSl _ _ Tryz.underlying51 ((Below.cell (p:=⟨L,i*194+66+q,none⟩) hW hLlt.out).trans CB.out))) (hS _ _ hI) ?_;go_frame
    refine Rg.Any.one (i:=13) (by kernel_rfl) (Rg.Any.run (some 9) rfl rfl rfl (Rg.xa (.slice none 0 0) _ rfl rfl) (hS _ _ hI) ?_);go_frame;refine Rg.Any.done (by kernel_rfl) ?_ _;clear hS hI;go_upto_region 5 with (fail);refine Rg.wl ?_;refine Rg.lm 32 (.slice none 0 0) ?_;go_frame;refine Rg.lr 33 (exec_nilT _ _ rfl rfl rfl) ?_;go_frame;go_wp2
    go_ret2
    exact ⟨_,.slice (some ⟨xb,xo,none⟩) n xc,by rw [HE.out]; rfl,K.out,HT.out,by rw [HE.out]; exact X.out,KB.out⟩
   | some u =>
    have gu:=HR.out.gd i q u hi1 hin htr;obtain ⟨bb,bo,bc,hbv,hbp⟩:=HT.out.byS hin hq64 htr gu hn1
    have hHS:Cm.sfP n (trOf T) (n - (i+1)) (Ma.mulN y (Ma.invN u))=A:=by
     rw [← HS.out]
     have e1:n - i=(n - i - 1)+1:=by omega
     rw [e1,Cm.sfP_some (u:=u) (by rw [show n - (n - i - 1+1)=i by omega,← hq.out]; exact htr),show n - i - 1=n - (i+1) by omega]
    obtain ⟨hgy2,hfy2⟩:=Cm.step_fx HR.out hi1 hin GY.out FY.out (by rw [← hq.out]; exact htr);have BP:=ι hbp;have GI:=ι (Cm.gd_inv gu);have HS2:=ι hHS;have GY2:=ι hgy2;have FY2:=ι hfy2;have CB:=ι (show wr.cell? ⟨L,i*194+66+q,none⟩=some (.slice (some ⟨bb,bo,none⟩) n bc) by rw [getBy HT.out hin hq64 (by omega),hbv])
    have hone:=ι (show q=i→Ma.mulN y (Ma.invN u)=y from fun e=>by
     have h1:=HR.out.self i hi1 hin;rw [e,h1] at htr
     cases htr
     rw [Cm.inv_one,Cm.mul_one GY.out])
    have hLlt:=ι HT.out.lt;clear hbv hbp gu hHS hgy2 hfy2 htr HS
    by_cases hqi:q=i
    ·have HY:=ι (hone.out hqi)
     have hqe:(q:Int)=(i:Int):=by omega
     clear hqi hone;go_upto_region 4 with (fail);have hV1:Below wr.heap.size wr wr.drew:=(Below.refl _ _).drew;replace KB:=ι (Rg.acc KB.out hV1);replace CB:=ι ((hV1.cell (p:=⟨L,i*194+66+q,none⟩) hLlt.out).trans CB.out);replace hLlt:=ι (Nat.lt_of_lt_of_le hLlt.out hV1.size);clear hV1;have hV0:Below wr.heap.size wr wr.drew:=(Below.refl _ _).drew;replace X:=ι (X.out.up hV0);replace HT:=ι (HT.out.up hV0);replace C0:=ι (C0.out.up hV0);replace C1:=ι (C1.out.up hV0);replace CX:=ι (CX.out.up hV0);replace BP:=ι (BP.out.up hV0);replace K:=ι (K.out.up hV0);generalize Fup F wr wr.drew=F1 at *;clear hV0;refine Rg.Any.begin (S:=Rg.Both 13 (fun _=>True) (fun W=>Below wr.drew.heap.size wr.drew W)) mix ?_;generalize wr.drew=w1 at *;have hS:∀ (l:Array Bool) W,Below w1.heap.size w1 W→Rg.Both 13 (fun _=>True) (fun W=>Below w1.heap.size w1 W) l W:=fun l W h=>⟨.inr trivial,h⟩
     have hI:Below w1.heap.size w1 w1:=Below.refl _ _;refine Rg.tm 0 13 (.pointer (some ⟨tb,0,none⟩)) 19 (hS _ _ hI) ?_;go_frame;refine Rg.tg 1 13 (.pointer (some ⟨tb,0,none⟩)) 20 rfl rfl (.inl ⟨rfl,fun w _=>exec_nil _ rfl rfl⟩) (hS _ _ hI) ?_;go_frame;refine Rg.tg 2 13 (.pointer (some ⟨tb,1,none⟩)) 21 rfl rfl (.inl ⟨rfl,fun w _=>exec_field _ rfl rfl (towF1 _ _)⟩) (hS _ _ hI) ?_;go_frame;refine Rg.tg 3 13 (.slice (some ⟨L,0,none⟩) n n) 22 rfl rfl (Rg.yields_cell _ _ rfl rfl ⟨tb,1,none⟩ rfl (fun W hW=>Rg.run_loadSl _ _ Tryz.underlying200 ((Below.cell (p:=⟨tb,1,none⟩) hW C1.out.lt).trans C1.out.cell))) (hS _ _ hI) ?_;go_frame;refine Rg.tm 4 13 (.int .i64 ((i:Nat):Int)) 23 (hS _ _ hI) ?_;go_frame;refine Rg.tm 5 13 (.slice (some ⟨xb,xo,none⟩) n xc) 24 (hS _ _ hI) ?_;go_frame;refine Rg.tm 6 13 (.int .i64 ((i:Nat):Int)) 25 (hS _ _ hI) ?_;go_frame;refine Rg.tg 7 13 (.pointer (some ⟨xb,xo+i,none⟩)) 26 rfl rfl (Rg.yields_index slPerm _ _ rfl rfl xb (xo) (n) xc (i) rfl rfl HIN.out) (hS _ _ hI) ?_;go_frame
     refine Rg.tg 8 13 (.int .i64 ((q:Nat):Int)) 27 rfl rfl (Rg.yields_cell _ _ rfl rfl ⟨xb,xo+i,none⟩ rfl (fun W hW=>run_loadInt ((Below.cell (p:=⟨xb,xo+i,none⟩) hW CX.out.lt).trans CX.out.cell))) (hS _ _ hI) ?_;go_frame;refine Rg.tg 9 13 (.pointer (some ⟨L,i*194,none⟩)) 28 rfl rfl (.inl ⟨rfl,fun w _=>exec_indexZ0 _ _ rfl Tryz.underlying200 szLevel L (n) (n) (i) rfl rfl HIN.out⟩) (hS _ _ hI) ?_;go_frame;refine Rg.tg 10 13 (.pointer (some ⟨L,i*194+66,none⟩)) 29 rfl rfl (.inl ⟨rfl,fun w _=>exec_field _ rfl rfl (lvF3 _ _ _)⟩) (hS _ _ hI) ?_;go_frame;refine Rg.tg 11 13 (.pointer (some ⟨L,i*194+66+q,none⟩)) 30 rfl rfl (.inl ⟨rfl,fun w _=>exec_indexArr _ _ rfl Tryz.underlying207 szP L (i*194+66) (q) rfl rfl hq64⟩) (hS _ _ hI) ?_;go_frame;refine Rg.tg 12 13 (.slice (some ⟨bb,bo,none⟩) n bc) 31 rfl rfl (Rg.yields_cell _ _ rfl rfl ⟨L,i*194+66+q,none⟩ rfl (fun W hW=>Rg.run_loadSl _ _ Tryz.underlying51 ((Below.cell (p:=⟨L,i*194+66+q,none⟩) hW hLlt.out).trans CB.out))) (hS _ _ hI) ?_;go_frame
     refine Rg.Any.one (i:=13) (by kernel_rfl) (Rg.Any.run (some 9) rfl rfl rfl (Rg.xa (.slice (some ⟨bb,bo,none⟩) n bc) _ rfl rfl) (hS _ _ hI) ?_);go_frame;refine Rg.Any.done (by kernel_rfl) ?_ _;clear hS hI;go_upto_region 5 with (fail);refine Rg.wl ?_;refine Rg.lm 32 (.slice (some ⟨bb,bo,none⟩) n bc) ?_;go_frame;refine Rg.lr 33 (exec_nilF _ _ rfl rfl rfl) ?_;go_frame;go_upto_region 7 with (fail);refine Rg.wl ?_;refine Rg.lm 36 (.slice (some ⟨xb,xo,none⟩) n xc) ?_;go_frame;refine Rg.lm 37 (.int .i64 ((i:Nat):Int)) ?_;go_frame;refine Rg.lr 38 (exec_indexS slPerm _ _ rfl xb (xo) (n) xc (i) rfl rfl HIN.out) ?_;go_frame;refine Rg.lr 39 (Rg.exec_load (v:=.int .i64 ((q:Nat):Int)) _ _ rfl ⟨xb,xo+i,none⟩ rfl (run_loadInt CX.out.cell)) ?_;go_frame;refine Rg.lm 40 (.int .i64 ((i:Nat):Int)) ?_;go_frame;refine Rg.lr 41 (exec_bin (R:=.bool false) .neq _ _ _ rfl rfl rfl (b_neqB _ Rg.dF)) ?_;go_frame
     have hg0:=C0.out.cell;go_wp2
     go_roundw
     case rel=>exact ⟨i+1,y,_,by omega,by omega,by go_num,X,HT,C0,C1,K,KB,GY,ι (by have:=FY2.out; rwa [HY.out] at this),ι (by have:=HS2.out; rwa [HY.out] at this)⟩
     case measure=>simp [intOf]; omega
    ·have hqe:¬ (q:Int)=(i:Int):=by omega
     clear hqi hone;go_upto_region 4 with (fail);have hV1:Below wr.heap.size wr wr.drew:=(Below.refl _ _).drew;replace KB:=ι (Rg.acc KB.out hV1);replace CB:=ι ((hV1.cell (p:=⟨L,i*194+66+q,none⟩) hLlt.out).trans CB.out);replace hLlt:=ι (Nat.lt_of_lt_of_le hLlt.out hV1.size);clear hV1;have hV0:Below wr.heap.size wr wr.drew:=(Below.refl _ _).drew;replace X:=ι (X.out.up hV0);replace HT:=ι (HT.out.up hV0);replace C0:=ι (C0.out.up hV0);replace C1:=ι (C1.out.up hV0);replace CX:=ι (CX.out.up hV0);replace BP:=ι (BP.out.up hV0);replace K:=ι (K.out.up hV0);generalize Fup F wr wr.drew=F1 at *;clear hV0;refine Rg.Any.begin (S:=Rg.Both 13 (fun _=>True) (fun W=>Below wr.drew.heap.size wr.drew W)) mix ?_;generalize wr.drew=w1 at *;have hS:∀ (l:Array Bool) W,Below w1.heap.size w1 W→Rg.Both 13 (fun _=>True) (fun W=>Below w1.heap.size w1 W) l W:=fun l W h=>⟨.inr trivial,h⟩
     have hI:Below w1.heap.size w1 w1:=Below.refl _ _;refine Rg.tm 0 13 (.pointer (some ⟨tb,0,none⟩)) 19 (hS _ _ hI) ?_;go_frame;refine Rg.tg 1 13 (.pointer (some ⟨tb,0,none⟩)) 20 rfl rfl (.inl ⟨rfl,fun w _=>exec_nil _ rfl rfl⟩) (hS _ _ hI) ?_;go_frame;refine Rg.tg 2 13 (.pointer (some ⟨tb,1,none⟩)) 21 rfl rfl (.inl ⟨rfl,fun w _=>exec_field _ rfl rfl (towF1 _ _)⟩) (hS _ _ hI) ?_;go_frame;refine Rg.tg 3 13 (.slice (some ⟨L,0,none⟩) n n) 22 rfl rfl (Rg.yields_cell _ _ rfl rfl ⟨tb,1,none⟩ rfl (fun W hW=>Rg.run_loadSl _ _ Tryz.underlying200 ((Below.cell (p:=⟨tb,1,none⟩) hW C1.out.lt).trans C1.out.cell))) (hS _ _ hI) ?_;go_frame;refine Rg.tm 4 13 (.int .i64 ((i:Nat):Int)) 23 (hS _ _ hI) ?_;go_frame;refine Rg.tm 5 13 (.slice (some ⟨xb,xo,none⟩) n xc) 24 (hS _ _ hI) ?_;go_frame;refine Rg.tm 6 13 (.int .i64 ((i:Nat):Int)) 25 (hS _ _ hI) ?_;go_frame;refine Rg.tg 7 13 (.pointer (some ⟨xb,xo+i,none⟩)) 26 rfl rfl (Rg.yields_index slPerm _ _ rfl rfl xb (xo) (n) xc (i) rfl rfl HIN.out) (hS _ _ hI) ?_;go_frame
     refine Rg.tg 8 13 (.int .i64 ((q:Nat):Int)) 27 rfl rfl (Rg.yields_cell _ _ rfl rfl ⟨xb,xo+i,none⟩ rfl (fun W hW=>run_loadInt ((Below.cell (p:=⟨xb,xo+i,none⟩) hW CX.out.lt).trans CX.out.cell))) (hS _ _ hI) ?_;go_frame;refine Rg.tg 9 13 (.pointer (some ⟨L,i*194,none⟩)) 28 rfl rfl (.inl ⟨rfl,fun w _=>exec_indexZ0 _ _ rfl Tryz.underlying200 szLevel L (n) (n) (i) rfl rfl HIN.out⟩) (hS _ _ hI) ?_;go_frame;refine Rg.tg 10 13 (.pointer (some ⟨L,i*194+66,none⟩)) 29 rfl rfl (.inl ⟨rfl,fun w _=>exec_field _ rfl rfl (lvF3 _ _ _)⟩) (hS _ _ hI) ?_;go_frame;refine Rg.tg 11 13 (.pointer (some ⟨L,i*194+66+q,none⟩)) 30 rfl rfl (.inl ⟨rfl,fun w _=>exec_indexArr _ _ rfl Tryz.underlying207 szP L (i*194+66) (q) rfl rfl hq64⟩) (hS _ _ hI) ?_;go_frame;refine Rg.tg 12 13 (.slice (some ⟨bb,bo,none⟩) n bc) 31 rfl rfl (Rg.yields_cell _ _ rfl rfl ⟨L,i*194+66+q,none⟩ rfl (fun W hW=>Rg.run_loadSl _ _ Tryz.underlying51 ((Below.cell (p:=⟨L,i*194+66+q,none⟩) hW hLlt.out).trans CB.out))) (hS _ _ hI) ?_;go_frame
     refine Rg.Any.one (i:=13) (by kernel_rfl) (Rg.Any.run (some 9) rfl rfl rfl (Rg.xa (.slice (some ⟨bb,bo,none⟩) n bc) _ rfl rfl) (hS _ _ hI) ?_);go_frame;refine Rg.Any.done (by kernel_rfl) ?_ _;clear hS hI;go_upto_region 5 with (fail);refine Rg.wl ?_;refine Rg.lm 32 (.slice (some ⟨bb,bo,none⟩) n bc) ?_;go_frame;refine Rg.lr 33 (exec_nilF _ _ rfl rfl rfl) ?_;go_frame;go_upto_region 7 with (fail);refine Rg.wl ?_;refine Rg.lm 36 (.slice (some ⟨xb,xo,none⟩) n xc) ?_;go_frame;refine Rg.lm 37 (.int .i64 ((i:Nat):Int)) ?_;go_frame;refine Rg.lr 38 (exec_indexS slPerm _ _ rfl xb (xo) (n) xc (i) rfl rfl HIN.out) ?_;go_frame;refine Rg.lr 39 (Rg.exec_load (v:=.int .i64 ((q:Nat):Int)) _ _ rfl ⟨xb,xo+i,none⟩ rfl (run_loadInt CX.out.cell)) ?_;go_frame;refine Rg.lm 40 (.int .i64 ((i:Nat):Int)) ?_;go_frame;refine Rg.lr 41 (exec_bin (R:=.bool true) .neq _ _ _ rfl rfl rfl (b_neqB _ Rg.dT)) ?_;go_frame
     clear hg0;go_upto_region 8 with (fail);refine Rg.wl ?_;refine Rg.lm 42 (.slice (some ⟨xb,xo,none⟩) n xc) ?_;go_frame;refine Rg.lm 43 (.slice (some ⟨bb,bo,none⟩) n bc) ?_;go_frame;refine Rg.lk 44 (exec_fn 183 _ _ _ rfl rfl rfl (Vmcl0 _ _)) ?_;refine (chMul_f X.out BP.out GY.out GI.out hn1 hn2).mono ?_;rintro e1 w2 ⟨mv,rfl,hmv,hb⟩;replace KB:=ι (Rg.acc KB.out hb);refine ⟨_,rfl,?_⟩;go_frame;replace X:=ι (X.out.up hb);replace HT:=ι (HT.out.up hb);replace C0:=ι (C0.out.up hb);replace C1:=ι (C1.out.up hb);replace CX:=ι (CX.out.up hb);replace BP:=ι (BP.out.up hb);replace K:=ι (K.out.up hb);have MV:=ι hmv;generalize Fup F1 w1 w2=F2 at *;clear hb;refine Rg.la 1 (mv) ?_;go_frame;have hg0:=C0.out.cell;go_wp2
     go_roundw
     case rel=>exact ⟨i+1,_,_,by omega,by omega,by go_num,MV,HT,C0,C1,K,KB,GY2,FY2,HS2⟩
     case measure=>simp [intOf]; omega
  ·obtain rfl:i=n:=by omega
   have HE:=ι (show A=(i,y) by rw [← HS.out,Nat.sub_self]; rfl);clear HS;go_wp2
   go_ret2
   exact ⟨_,u1,by rw [HE.out]; rfl,K.out,HT.out,by rw [HE.out]; exact X.out,KB.out⟩
end Go.Proofs.YthehbckogieimaaGreat

namespace Go.Proofs.Cm
open Go.Proofs
def Full (n:Nat) (T:Twr) (j:Nat):Prop:=Lvl n T j∧Cmp T j∧(T j).gens.length≤pot n T j
structure CInv (n i:Nat) (T T1:Twr):Prop where
 ext:Ext T T1
 low:∀ j,j<i→T1 j=T j
 gens:(T1 i).gens=(T i).gens
 up:∀ j,i<j→j<n→Full n T1 j
 lvl:Lvl n T1 i
def Done (T:Twr) (i k:Nat):Prop:=∀ m (h:m<(T i).orb.length),m<k→(T i).tried (T i).orb[m]=(T i).gens.length
theorem CInv.refl {n i:Nat} {T:Twr} (h:Lvl n T i) (hu:∀ j,i<j→j<n→Full n T j):CInv n i T T:=⟨Ext.refl T,fun _ _=>rfl,rfl,hu,h⟩
theorem CInv.all {n i:Nat} {T T1:Twr} (h:CInv n i T T1):∀ j,i≤j→j<n→Lvl n T1 j:=fun j h1 h2=>by
 by_cases e:j=i
 ·subst e; exact h.lvl
 ·exact (h.up j (by omega) h2).1
theorem Done.cmp {n i:Nat} {T:Twr} (h:Done T i (T i).orb.length) (hl:Lvl n T i):Cmp T i:=fun q u hu=>by
 obtain ⟨m,hm,rfl⟩:=List.getElem_of_mem ((hl.orb q).2 ⟨u,hu⟩);exact h m hm hm
theorem Full.ext {n:Nat} {T T':Twr} {j:Nat} (h:Full n T j) (hx:Ext T T') (e:T' j=T j) (e2:j+1<n→T' (j+1)=T (j+1)):Full n T' j:=by
 obtain ⟨h1,h2,h3⟩:=h;refine ⟨h1.ext e hx fun h0 s hs=>?_,h2.ext e,by rw [e]; exact Nat.le_trans h3 (pot_mono hx j)⟩;rw [e2 h0] at hs;exact h1.low h0 s hs
theorem CInv.found {n i k:Nat} {T T1:Twr} (h:CInv n i T T1) (hd:Done T1 i k) (hin:i<n) {q:Nat} {s uq:List Nat} (hk:(T1 i).tried q<(T1 i).gens.length) (hs:(T1 i).gens[(T1 i).tried q]=s) (huq:(T1 i).rep q=some uq) (hp:(T1 i).rep (ap s q)=none)
  (hkq:∃ h:k<(T1 i).orb.length,(T1 i).orb[k]=q) :
  CInv n i T (find (tick T1 i q) i (ap s q) (Ma.mulN uq s))∧Done (find (tick T1 i q) i (ap s q) (Ma.mulN uq s)) i k∧((find (tick T1 i q) i (ap s q) (Ma.mulN uq s) i).tried q=(T1 i).tried q+1)∧(find (tick T1 i q) i (ap s q) (Ma.mulN uq s) i).gens=(T1 i).gens ∧
   ∃ h:k<(find (tick T1 i q) i (ap s q) (Ma.mulN uq s) i).orb.length,(find (tick T1 i q) i (ap s q) (Ma.mulN uq s) i).orb[k]=q:=by
 have hx:Ext T1 (find (tick T1 i q) i (ap s q) (Ma.mulN uq s)):=(tick_ext T1 i q).trans (find_ext (by rw [tick_at]; exact hp))
 have ne:∀ j,j≠i→find (tick T1 i q) i (ap s q) (Ma.mulN uq s) j=T1 j:=fun j hj=>by rw [find_ne hj,tick_ne hj]
 have ei:find (tick T1 i q) i (ap s q) (Ma.mulN uq s) i={ gens:=(T1 i).gens,orb:=(T1 i).orb++[ap s q],rep:=fun z=>if z=ap s q then some (Ma.mulN uq s) else (T1 i).rep z,tried:=fun p=>if p=q then (T1 i).tried p+1 else (T1 i).tried p }:=by rw [find_at',tick_at]
 obtain ⟨hko,hkq⟩:=hkq;refine ⟨⟨h.ext.trans hx,fun j hj=>by rw [ne j (by omega)]; exact h.low j hj,by rw [ei]; exact h.gens,fun j h1 h2=>(h.up j h1 h2).ext hx (ne j (by omega)) (fun _=>ne _ (by omega)),find_lvl h.all hin hk hs huq hp⟩,?_,by rw [ei]; simp,by rw [ei],?_⟩
 ·intro m hm hmk
  have hm':m<(T1 i).orb.length:=by omega
  have e1:(find (tick T1 i q) i (ap s q) (Ma.mulN uq s) i).orb[m]=(T1 i).orb[m]:=by simp only [ei]; rw [List.getElem_append_left hm']
  rw [e1]
  have hne:(T1 i).orb[m]≠q:=by
   rw [← hkq];intro e;have:=(List.getElem_inj h.lvl.nd).1 e;omega
  simp only [ei];rw [if_neg hne];exact hd m hm' hmk
 ·have hk2:k<((T1 i).orb++[ap s q]).length:=by simp; omega
  refine ⟨by rw [ei]; exact hk2,?_⟩;simp only [ei];rw [List.getElem_append_left hko]; exact hkq
theorem CInv.ticked {n i k:Nat} {T T1 T4:Twr} (h:CInv n i T T1) (hd:Done T1 i k) {q:Nat} {s uq v:List Nat} (hk:(T1 i).tried q<(T1 i).gens.length) (hs:(T1 i).gens[(T1 i).tried q]=s) (huq:(T1 i).rep q=some uq) (hv:(T1 i).rep (ap s q)=some v)
  (hkq:∃ h:k<(T1 i).orb.length,(T1 i).orb[k]=q) (hx:Ext (tick T1 i q) T4) (he:∀ j,j<i+1→T4 j=tick T1 i q j) (hu:∀ j,i<j→j<n→Full n T4 j)
  (hlow:i+1<n→∀ s∈(T4 (i+1)).gens,Gr n (·∈(T1 i).gens) s) (hsd:Sd n (trOf T4) (n - (i+1)) (Ma.mulN (Ma.mulN uq s) (Ma.invN v))) :
  CInv n i T T4∧Done T4 i k∧(T4 i).tried q=(T1 i).tried q+1∧(T4 i).gens=(T1 i).gens∧∃ h:k<(T4 i).orb.length,(T4 i).orb[k]=q:=by
 have hx1:=(tick_ext T1 i q).trans hx;have ei:=(he i (by omega)).trans (tick_at T1 i q);obtain ⟨hko,hkq⟩:=hkq;refine ⟨⟨h.ext.trans hx1,fun j hj=>by rw [he j (by omega),tick_ne (by omega)]; exact h.low j hj,by rw [ei]; exact h.gens,hu,tick_lvl h.lvl hk hs huq (he i (by omega)) hx1 hlow hv hsd⟩,?_,by rw [ei]; simp,by rw [ei],?_⟩
 ·intro m hm hmk
  have hm':m<(T1 i).orb.length:=by rw [ei] at hm; exact hm
  have hne:(T1 i).orb[m]≠q:=by
   rw [← hkq];intro e;have:=(List.getElem_inj h.lvl.nd).1 e;omega
  simp only [ei];rw [if_neg hne];exact hd m hm' hmk
 ·refine ⟨by rw [ei]; exact hko,?_⟩
  simp only [ei]; exact hkq
theorem schr_ok {n i q:Nat} {T:Twr} (h:Lvl n T i) (hin:i<n) {s uq v:List Nat} (hs:s∈(T i).gens) (huq:(T i).rep q=some uq) (hv:(T i).rep (ap s q)=some v) :
  Gd n (Ma.mulN uq s)∧Gd n v∧ap (Ma.mulN uq s) i=ap s q∧Gd n (Ma.mulN (Ma.mulN uq s) (Ma.invN v))∧Fx (i+1) (Ma.mulN (Ma.mulN uq s) (Ma.invN v))∧Gr n (·∈(T i).gens) (Ma.mulN (Ma.mulN uq s) (Ma.invN v)):=by
 have gs:=h.ggd s hs;have gu:=h.tgd q uq huq;have gv:=h.tgd _ v hv;have gy:=gd_mul gu gs
 have ay:ap (Ma.mulN uq s) i=ap s q:=by rw [ap_mul gu hin,h.tat q uq huq]
 have fy:Fx i (Ma.mulN uq s):=Fx.mul gu (by omega) (h.tfx q uq huq) (h.gfx s hs);refine ⟨gy,gv,ay,gd_mul gy (gd_inv gv),fun j hj=>?_,.mul _ _ (.mul _ _ (h.tgr q uq huq) (.gen _ hs)) (.inv _ (h.tgr _ v hv))⟩;rw [ap_mul gy (by omega)]
 by_cases e:j=i
 ·subst e
  rw [ay,← h.tat _ v hv];exact ap_inv gv hin
 ·rw [fy j (by omega)]
  exact Fx.inv gv (by omega) (h.tfx _ v hv) j (by omega)
structure Added (n i:Nat) (T T':Twr) (x:List Nat):Prop where
 ext:Ext T T'
 low:∀ j,j<i→T' j=T j
 full:∀ j,i≤j→j<n→Full n T' j
 sd:Sd n (trOf T') (n - i) x
 gens:∀ H:List Nat→Prop,IsG n H→(∀ s∈(T i).gens,H s)→H x→∀ s∈(T' i).gens,H s
theorem Added.same {n i:Nat} {T:Twr} {x:List Nat} (hf:∀ j,i≤j→j<n→Full n T j) (hi:i<n) (gx:Gd n x) (fx:Fx i x) (h:(sfP n (trOf T) (n - i) x).1=n):Added n i T T x:=by
 have hr:Rp n i (trOf T):=Lvl.rp fun j a b=>(hf j a b).1;obtain ⟨_,_,g,f,_⟩:=sfP_all hr (d:=n - i) (x:=x) (by omega) (by omega) gx (by rw [show n - (n - i)=i by omega]; exact fx);rw [h] at f;refine ⟨Ext.refl T,fun _ _=>rfl,hf,?_,fun H _ hs _=>hs⟩;refine sfP_back (tr:=trOf T) (by omega) (fun _ _ _ _ e=>e) ?_;rw [h,Nat.sub_self];exact Fx.all g f
structure AInv (n i at_ k:Nat) (T T1:Twr) (r:List Nat):Prop where
 ext:Ext T T1
 low:∀ j,j<i→T1 j=T j
 put:∀ j,i≤j→j<k→T1 j=putG T i at_ r j
 full:∀ j,k≤j→j<n→Full n T1 j
 genk:k≤at_→(T1 k).gens=(T k).gens++[r]
 tail:k=at_+1→∀ j,at_<j→T1 j=T j
 memr:r∈(T1 at_).gens
 more:k≤at_→(T at_).orb.length<(T1 at_).orb.length
theorem AInv.start {n i at_:Nat} {T:Twr} {r:List Nat} (hf:∀ j,i≤j→j<n→Full n T j) (hi:i≤at_):AInv n i at_ (at_+1) T (putG T i at_ r) r :=
 ⟨putG_ext _ _ _ _,fun j hj=>putG_out (by omega),fun _ _ _=>rfl,fun j h1 h2=>(hf j (by omega) h2).ext (putG_ext T i at_ r) (putG_out (by omega)) (fun _=>putG_out (by omega)),fun h=>by omega,fun _ j hj=>putG_out (by omega),
  by rw [putG_in ⟨hi,Nat.le_refl _⟩]; exact List.mem_append_right _ (List.mem_singleton.2 rfl),fun h=>by omega⟩
theorem AInv.lvl {n i at_ k:Nat} {T T1:Twr} {r:List Nat} (h:AInv n i at_ (k+1) T T1 r) (hf:∀ j,i≤j→j<n→Full n T j) (hi:i≤k) (hk:k≤at_) (ha:at_<n) (gr:Gd n r) (fr:Fx at_ r):Lvl n T1 k:=by
 have h1:=putG_lvl (hf k hi (by omega)).1 hi gr fr;have e0:=h.put k hi (by omega);refine h1.ext0 e0 (fun j p u e=>?_) fun h0 s hs=>?_
 ·have:trOf (putG T i at_ r) j p=some u:=e
  rw [putG_to] at this;exact h.ext.rep j p u this
 ·by_cases e:k+1≤at_
  ·rw [h.genk e] at hs
   have hp:=h1.low h0 s;rw [putG_in (j:=k+1) ⟨by omega,e⟩] at hp;exact hp hs
  ·have e2:k+1=at_+1:=by omega
   rw [h.tail e2 (k+1) (by omega)] at hs;have hp:=h1.low h0 s;rw [putG_out (j:=k+1) (by omega)] at hp;exact hp hs
theorem AInv.step {n i at_ k:Nat} {T T1 T2:Twr} {r:List Nat} (h:AInv n i at_ (k+1) T T1 r) (hf:∀ j,i≤j→j<n→Full n T j) (hi:i≤k) (hk:k≤at_) (ha:at_<n) (hp:(T at_).rep (ap r at_)=none) (hc:CInv n k T1 T2) (hcm:Cmp T2 k):AInv n i at_ k T T2 r:=by
 have hx:=h.ext.trans hc.ext
 have hg:(T2 k).gens=(T k).gens++[r]:=by rw [hc.gens,h.put k hi (by omega),putG_in ⟨hi,hk⟩]
 have hm:=hc.ext.gens at_ r h.memr
 have hlt:(T at_).orb.length<(T2 at_).orb.length:=by
  by_cases e:k=at_
  ·subst e
   have h0:=(hf k hi ha).1;have hl:=hc.lvl;have hself:=hl.self;obtain ⟨m,hm1,hm2⟩:=List.getElem_of_mem hm;obtain ⟨v,hv,_⟩:=hl.pr k _ m hm1 hself (by rw [hcm k _ hself]; exact hm1);rw [hm2] at hv;have hin:=(hl.orb (ap r k)).2 ⟨v,hv⟩
   have hnin:ap r k∉(T k).orb:=fun hh=>by
    obtain ⟨u,hu⟩:=(h0.orb _).1 hh;rw [hp] at hu; cases hu
   have hnd:(ap r k :: (T k).orb).Nodup:=List.nodup_cons.2 ⟨hnin,h0.nd⟩
   have:=List.Nodup.length_le_of_subset hnd (l₂:=(T2 k).orb) (fun z hz=>by
    rcases List.mem_cons.1 hz with rfl | hz
    ·exact hin
    ·obtain ⟨u,hu⟩:=(h0.orb z).1 hz
     exact (hl.orb z).2 ⟨u,hx.rep k z u hu⟩)
   simp at this; omega
  ·exact Nat.lt_of_lt_of_le (h.more (by omega)) (hc.ext.orb at_)
 refine ⟨hx,fun j hj=>by rw [hc.low j (by omega)]; exact h.low j hj,fun j h1 h2=>by rw [hc.low j h2]; exact h.put j h1 (by omega),fun j h1 h2=>?_,fun _=>hg,fun e=>by omega,hm,fun _=>hlt⟩
 by_cases e:j=k
 ·subst e
  refine ⟨hc.lvl,hcm,?_⟩;have:=(hf j hi h2).2.2;have h3:=pot_more (n:=n) hx ha hk hlt;rw [hg,List.length_append,List.length_singleton];omega
 ·exact hc.up j (by omega) h2
theorem AInv.up {n i at_ k:Nat} {T T1:Twr} {r:List Nat} (h:AInv n i at_ (k+1) T T1 r):∀ j,k<j→j<n→Full n T1 j:=fun j h1 h2=>h.full j (by omega) h2
theorem AInv.added {n i:Nat} {T T1:Twr} {x:List Nat} (hf:∀ j,i≤j→j<n→Full n T j) (hi:i<n) (gx:Gd n x) (fx:Fx i x) (h:AInv n i (sfP n (trOf T) (n - i) x).1 i T T1 (sfP n (trOf T) (n - i) x).2) (ha:(sfP n (trOf T) (n - i) x).1<n):Added n i T T1 x:=by
 have hr:Rp n i (trOf T):=Lvl.rp fun j a b=>(hf j a b).1;obtain ⟨_,hge,gr,fr,_⟩:=sfP_all hr (d:=n - i) (x:=x) (by omega) (by omega) gx (by rw [show n - (n - i)=i by omega]; exact fx);rw [show n - (n - i)=i by omega] at hge;refine ⟨h.ext,h.low,h.full,?_,fun H hH hs hx s hs2=>?_⟩
 ·refine sfP_back (tr:=trOf T) (by omega) (fun j p u _ e=>h.ext.rep j p u e) ?_
  exact Lvl.sd (fun j h1 h2=>⟨(h.full j (by omega) h2).1,(h.full j (by omega) h2).2.1⟩) ha (.gen _ h.memr)
 ·rw [h.genk hge] at hs2
  rcases List.mem_append.1 hs2 with hs2 | hs2
  ·exact hs s hs2
  ·rw [List.mem_singleton] at hs2
   subst hs2;refine sfP_mem hH (by omega) (fun j p u h1 h2 hu=>?_) hx;have hT:Tow n i (fun j s=>s∈(T j).gens) (trOf T):=Lvl.tow fun j a b=>⟨(hf j a b).1,(hf j a b).2.1⟩;have h3:=hT.mem j p u (by omega) h2 hu;have h4:=hT.sub (i:=i) (Nat.le_refl _) (k:=j - i) (by omega) (x:=u) (by rwa [show i+(j - i)=j by omega]);exact Gr.sub hH hs h4
end Go.Proofs.Cm
