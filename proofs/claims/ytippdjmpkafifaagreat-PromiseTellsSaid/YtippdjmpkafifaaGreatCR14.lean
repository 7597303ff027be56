import Derived.Test.YtippdjmpkafifaaGreatCR13
import Derived.Test.YtippdjmpkafifaaGreatCR5
import Derived.Lib.LazyBuf
import Derived.Deep.RegionHeld3
import Derived.Deep.RegionWith
import Derived.Test.YtippdjmpkafifaaGreatCR11
set_option maxRecDepth 100000
set_option maxHeartbeats 64000000
namespace Go.Proofs.YtippdjmpkafifaaGreat
open Go.RowKit
namespace K
def jw (nd:Int) (x:Q):Bool:=T.right x && decide (x.node < nd)
def dD (r:List Q) (v:ag) (x:Q):List Q:=v.map (req r) ++ [x]
def kH (nd:Int) (l:List Ro) (ss:List S) (r:List Q) (x:Q) (v:ag):Bool:=(plan nd l ss (dD r v x)).2 == 4
def iC (nd:Int) (l:List Ro) (ss:List S) (r:List Q) (x:Q) (c:ag) (many aI:Nat):Option (List Int) :=
 ((A.dM r.length many aI).map (c ++ ·)).find? (kH nd l ss r x)
def kU (nd:Int) (l:List Ro) (ss:List S) (r:List Q) (x:Q):Nat->Nat->Option (List Int)
 | 0,_=>none
 | k + 1,many=>match iC nd l ss r x [] many 0 with
  | some v=>some v
  | none=>kU nd l ss r x k (many + 1)
structure An where
 acc:Bool
 OE:List (Int × Tr)
 blk:List Int
 proof:List (Int × List Int × List Lb)
def An.zero:An:=⟨false,[],[],[]⟩
def dL (nd:Int) (l:List Ro) (ss:List S) (r:List Q) (x:Q):Option (List Q) × An × Int :=
 if (plan nd l ss r).2 ≠ 0\/jw nd x=false then (none,An.zero,1)
 else if 6<=r.length then (none,An.zero,6)
 else if (plan nd l ss (r ++ [x])).2=0 then (some (r ++ [x]),⟨true,(plan nd l ss (r ++ [x])).1.map λt=>((t.1:Int),t.2),[],[]⟩,0)
 else match kU nd l ss r x (r.length + 1) 0 with
  | some v=>(some r,⟨false,[],v,(refute nd l ss (dD r v x)).1.map λb=>((b.1:Int),b.2)⟩,0)
  | none=>(some r,An.zero,0)
def kP (n:Int):Int->List Int->Bool
 | _,[]=>true
 | p,i :: v=>!decide (i<=p) && (!decide (n<=i) && kP n i v)
def kQ (nd:Int) (l:List Ro) (ss:List S) (r:List Q) (x:Q) (a:An):Bool :=
 if jw nd x=false\/6<=r.length then false
 else if a.acc=true then (a.blk.length + a.proof.length == 0) && (checks nd l ss (r ++ [x]) a.OE == 0)
 else kP r.length (-1) a.blk && ((a.OE.length == 0) && refutes nd l ss (dD r a.blk x) a.proof)
section
variable {nd : Int} {l : List Ro} {ss ss' : List S} {r r' : List Q} {x : Q}
theorem Ja (h:r'.map Q.bare=r.map Q.bare) (g:ss'.map S.bare=ss.map S.bare):plan nd l ss' r'=plan nd l ss r:=by rw [<-Vh nd l r' ss',h,g,Vh]
theorem acJ (h:r'.map Q.bare=r.map Q.bare) (g:ss'.map S.bare=ss.map S.bare):refute nd l ss' r'=refute nd l ss r:=by rw [<-acG nd l r' ss',h,g,acG]
theorem Yk (h:r'.map Q.bare=r.map Q.bare) (g:ss'.map S.bare=ss.map S.bare) (ts:List (Int × Tr)):checks nd l ss' r' ts=checks nd l ss r ts:=by rw [<-Yg nd l r' ss',h,g,Yg]
theorem acP (h:r'.map Q.bare=r.map Q.bare) (g:ss'.map S.bare=ss.map S.bare) (bl:List (Int × List Int × List Lb)):refutes nd l ss' r' bl=refutes nd l ss r bl:=by rw [<-acL nd l r' ss',h,g,acL]
theorem N9 {i:Nat} {q:Q} (h:r[i]? = some q):req r (i:Int)=q:=by unfold req;rw [kE,h];rfl
theorem Di:dD r (iota r.length) x=r ++ [x]:=by
 unfold dD;congr 1;apply List.ext_getElem?;intro i;rw [dG,iota,dG];by_cases hi:i < r.length
 ·rw [List.getElem?_range hi,Option.map_some,Option.map_some,N9 (zF hi),zF hi]
 ·rw [lK (by rw [List.length_range];omega),lK (by omega)];rfl
theorem Vf (h:r'.map Q.bare=r.map Q.bare) {x':Q} (hx:x'.bare=x.bare) (v:ag):(dD r' v x').map Q.bare=(dD r v x).map Q.bare:=by
 unfold dD;rw [eG,eG,List.map_map,List.map_map,List.map_singleton,List.map_singleton,hx];congr 1;refine List.map_congr_left λi _=>?_;show (req r' i).bare=(req r i).bare;rw [<-vU,<-vU,h]
theorem VD (h:r'.map Q.bare=r.map Q.bare):r'.length=r.length:=by have:=congrArg List.length h;rwa [bu,bu] at this
theorem YT {x':Q} (hx:x'.bare=x.bare):jw nd x'=jw nd x:=by
 have h1:∀ y:Q,jw nd y.bare=jw nd y:=λ_=>rfl;rw [<-h1 x',hx,h1]
theorem Qi (h:r'.map Q.bare=r.map Q.bare) {x':Q} (hx:x'.bare=x.bare):(r' ++ [x']).map Q.bare=(r ++ [x]).map Q.bare:=by
 rw [eG,eG,h,List.map_singleton,List.map_singleton,hx]
theorem agv (h:r'.map Q.bare=r.map Q.bare) (g:ss'.map S.bare=ss.map S.bare) {x':Q} (hx:x'.bare=x.bare) (c:ag) (m f:Nat):iC nd l ss' r' x' c m f=iC nd l ss r x c m f:=by
 have:kH nd l ss' r' x'=kH nd l ss r x:=by
  funext v
  unfold kH;rw [Ja (Vf h hx v) g]
 unfold iC;rw [this,VD h]
theorem adZ (h:r'.map Q.bare=r.map Q.bare) (g:ss'.map S.bare=ss.map S.bare) {x':Q} (hx:x'.bare=x.bare):∀ (k m:Nat),kU nd l ss' r' x' k m=kU nd l ss r x k m
 | 0,_=>rfl
 | k + 1,m=>by rw [kU,kU,agv h g hx,adZ h g hx k (m + 1)]
theorem ae6 (h:r'.map Q.bare=r.map Q.bare) (g:ss'.map S.bare=ss.map S.bare) {x':Q} (hx:x'.bare=x.bare):(dL nd l ss' r' x').2=(dL nd l ss r x).2/\(dL nd l ss' r' x').1.map (List.map Q.bare)=(dL nd l ss r x).1.map (List.map Q.bare):=by
 have hp:=Ja (nd:=nd) (l:=l) h g;have hq:=Ja (nd:=nd) (l:=l) (Qi h hx) g;have hs:=adZ (nd:=nd) (l:=l) h g hx;have hr:=λv=>acJ (nd:=nd) (l:=l) (Vf h hx v) g;have hl:=VD h;unfold dL;rw [hp,hq,YT hx,hl,hs];split
 ·exact ⟨rfl,rfl⟩
 split
 ·exact ⟨rfl,rfl⟩
 split
 ·exact ⟨rfl,by simp only [Option.map_some];rw [Qi h hx]⟩
 split
 ·exact ⟨by rw [hr],by simp only [Option.map_some];rw [h]⟩
 ·exact ⟨rfl,by simp only [Option.map_some];rw [h]⟩
theorem afP (h:r'.map Q.bare=r.map Q.bare) (g:ss'.map S.bare=ss.map S.bare) {x':Q} (hx:x'.bare=x.bare) (a:An):kQ nd l ss' r' x' a=kQ nd l ss r x a:=by
 unfold kQ;rw [YT hx,VD h,Yk (Qi h hx) g,acP (Vf h hx _) g]
theorem Kr {n:Int}:∀ {v:ag} {p:Int},kP n p v=true ↔ v.Pairwise (· < ·)/\∀ i ∈ v,p < i/\i < n
 | [],p=>⟨λ_=>⟨List.Pairwise.nil,λi h=>by cases h⟩,λ_=>rfl⟩
 | j :: v,p=>by
  rw [kP,dH,dH,Bool.not_eq_true',Bool.not_eq_true',decide_eq_false_iff_not,decide_eq_false_iff_not,Kr,List.pairwise_cons];constructor
  ·rintro ⟨h1,h2,h3,h4⟩;refine ⟨⟨λi hi=>(h4 i hi).1,h3⟩,λi hi=>?_⟩;rcases dw.1 hi with rfl | hi
   ·omega
   ·have:=h4 i hi;omega
  ·rintro ⟨⟨h1,h2⟩,h3⟩;have hj:=h3 j (dJ ..);exact ⟨by omega,by omega,h2,λi hi=>⟨h1 i hi,(h3 i (dN _ hi)).2⟩⟩
theorem adX:∀ {k m:Nat} {v:ag},kU nd l ss r x k m=some v->∃ n,m<=n/\n < m + k/\v ∈ A.dM r.length n 0/\kH nd l ss r x v=true/\∀ n',m<=n'->n' < n->∀ u ∈ A.dM r.length n' 0,kH nd l ss r x u=false
 | 0,m,v,h=>by cases h
 | k + 1,m,v,h=>by
  rw [kU] at h;cases hf:iC nd l ss r x [] m 0 with
  | some u =>
   rw [hf] at h;injection h with h;subst h;unfold iC at hf;have h1:=List.find?_some hf;have h2:=List.mem_of_find?_eq_some hf;obtain ⟨u',hu,e⟩:=fE.1 h2;rw [List.nil_append] at e;subst e;exact ⟨m,zG _,by omega,hu,h1,λn' h1 h2=>by omega⟩
  | none =>
   rw [hf] at h;obtain ⟨n,h1,h2,h3,h4,h5⟩:=adX h;refine ⟨n,by omega,by omega,h3,h4,λn' g1 g2 u hu=>?_⟩;by_cases e:n'=m
   ·subst e;unfold iC at hf;have:=List.find?_eq_none.1 hf ([] ++ u) (fE.2 ⟨u,hu,rfl⟩);rw [List.nil_append] at this;simpa using this
   ·exact h5 n' (by omega) g2 u hu
theorem adW:∀ {k m:Nat},kU nd l ss r x k m=none->∀ n,m<=n->n < m + k->∀ u ∈ A.dM r.length n 0,kH nd l ss r x u=false
 | 0,m,_,n,h1,h2=>by omega
 | k + 1,m,h,n,h1,h2=>λu hu=>by
  rw [kU] at h;cases hf:iC nd l ss r x [] m 0 with
  | some u=>rw [hf] at h;cases h
  | none =>
   rw [hf] at h;by_cases e:n=m
   ·subst e;unfold iC at hf;have:=List.find?_eq_none.1 hf ([] ++ u) (fE.2 ⟨u,hu,rfl⟩);rw [List.nil_append] at this;simpa using this
   ·exact adW h n (by omega) (by omega) u hu
theorem aij (n:Nat):iota n ∈ A.dM n n 0:=A.qL.2 ⟨by unfold iota;rw [bu,List.length_range],Uz n,λy hy=>by have:=zY.1 hy;omega⟩
theorem ajY:∀ {v:ag},v.Pairwise (· < ·)->(∀ i ∈ v,0<=i/\i < (r.length:Int))->(v.map (req r)).Sublist r:=by
 have key:∀ (r:List Q) (v:ag),v.Pairwise (· < ·)->(∀ i ∈ v,0<=i/\i < (r.length:Int))->(v.map (req r)).Sublist r:=by
  intro r;induction r with
  | nil =>
   intro v _ hv;cases v with
   | nil=>exact List.Sublist.refl _
   | cons i v=>have:=hv i (dJ ..);simp at this;omega
  | cons q r ih =>
   intro v hp hv;have shift:∀ (u:ag),(∀ i ∈ u,1<=i)->u.map (req (q :: r))=(u.map (· - 1)).map (req r):=by
    intro u hu;rw [List.map_map];refine List.map_congr_left λi hi=>?_;have:=hu i hi;show req (q :: r) i=req r (i - 1);unfold req;rw [show i.toNat=(i - 1).toNat + 1 by omega,List.getElem?_cons_succ]
   have pw:∀ (u:ag),u.Pairwise (· < ·)->(u.map (· - 1)).Pairwise (· < ·):=λu hu=>List.pairwise_map.2 (hu.imp (by intro a b h;omega));cases v with
   | nil=>exact List.nil_sublist _
   | cons i v =>
    obtain ⟨h1,h2⟩:=List.pairwise_cons.1 hp;have hi:=hv i (dJ ..);by_cases e:i=0
    ·subst e;rw [List.map_cons,shift v (λj hj=>by have:=h1 j hj;omega)];refine List.Sublist.cons_cons _ (ih _ (pw v h2) λj hj=>?_);obtain ⟨k,hk,rfl⟩:=fE.1 hj;have:=h1 k hk;have:=hv k (dN _ hk);rw [dQ] at this;omega
    ·rw [shift (i :: v) (λj hj=>by
      rcases dw.1 hj with rfl | hj
      ·omega
      ·have:=h1 j hj;omega)]
     refine List.Sublist.cons _ (ih _ (pw _ hp) λj hj=>?_);obtain ⟨k,hk,rfl⟩:=fE.1 hj;have h9:=hv k hk;rw [dQ] at h9;rcases dw.1 hk with rfl | hk
     ·omega
     ·have:=h1 k hk;omega
 exact λ{v} h1 h2=>key r v h1 h2
theorem ajZ {v:ag} (h1:v.Pairwise (· < ·)) (h2:∀ i ∈ v,0<=i/\i < (r.length:Int)):(dD r v x).Sublist (r ++ [x]):=(ajY h1 h2).append (List.Sublist.refl _)
theorem agL (h:bK nd l ss r=0) (hx:jw nd x=true) (hl:r.length + 1<=6):bK nd l ss (r ++ [x])=0:=by
 obtain ⟨h1,h2,h3,h4,-⟩:=kT h;refine ajU h1 h2 h3 (λq hq=>?_) (by rw [cZ];exact hl);rcases dX.1 hq with hq | hq
 ·exact h4 q hq
 ·rw [dB.1 hq];unfold jw at hx;rw [dH,decide_eq_true_iff] at hx;exact hx
theorem ask_cases:(∃ e,e ≠ 0/\dL nd l ss r x=(none,An.zero,e)) \/
  (((plan nd l ss r).2=0/\jw nd x=true/\r.length < 6) /\
   (((plan nd l ss (r ++ [x])).2=0/\dL nd l ss r x=(some (r ++ [x]),⟨true,(plan nd l ss (r ++ [x])).1.map λt=>((t.1:Int),t.2),[],[]⟩,0)) \/
    ((plan nd l ss (r ++ [x])).2=4/\∃ v,kU nd l ss r x (r.length + 1) 0=some v/\dL nd l ss r x=(some r,⟨false,[],v,(refute nd l ss (dD r v x)).1.map λb=>((b.1:Int),b.2)⟩,0)))):=by
 by_cases h1:(plan nd l ss r).2 ≠ 0\/jw nd x=false
 ·exact .inl ⟨1,by decide,by unfold dL;rw [if_pos h1]⟩
 by_cases h2:6<=r.length
 ·exact .inl ⟨6,by decide,by unfold dL;rw [if_neg h1,if_pos h2]⟩
 have h3:(plan nd l ss r).2=0:=by
  by_cases e:(plan nd l ss r).2=0
  ·exact e
  ·exact absurd (.inl e) h1
 have h4:jw nd x=true:=by
  cases e:jw nd x
  ·exact absurd (.inr e) h1
  ·rfl
 refine .inr ⟨⟨h3,h4,by omega⟩,?_⟩;have hpc:=agL (acw h3).1 h4 (by omega);rcases aj3 hpc with h5 | h5
 ·exact .inl ⟨h5,by unfold dL;rw [if_neg h1,if_neg h2,if_pos h5]⟩
 ·refine .inr ⟨h5,?_⟩;cases hs:kU nd l ss r x (r.length + 1) 0 with
  | none =>
   have:=adW hs r.length (aW _) (by omega) _ (aij _);unfold kH at this;rw [Di,h5] at this;cases this
  | some v=>exact ⟨v,rfl,by unfold dL;rw [if_neg h1,if_neg h2,if_neg (by omega),hs]⟩
theorem QD {n:Nat} {v:ag} (h:v ∈ A.dM r.length n 0):v.Pairwise (· < ·)/\∀ i ∈ v,0<=i/\i < (r.length:Int):=by
 obtain ⟨-,h1,h2⟩:=A.qL.1 h;exact ⟨h1,λi hi=>by have:=h2 i hi;omega⟩
theorem ae5 (hs:ss.length<=4) (hr:r.length<=3) (h:(dL nd l ss r x).2.2=0):kQ nd l ss r x (dL nd l ss r x).2.1=true/\((dL nd l ss r x).2.1.acc=true ↔ (plan nd l ss (r ++ [x])).2=0):=by
 rcases ask_cases (nd:=nd) (l:=l) (ss:=ss) (r:=r) (x:=x) with ⟨e,h1,h2⟩ | ⟨⟨h1,h2,h3⟩,⟨h4,h5⟩ | ⟨h4,v,h5,h6⟩⟩
 ·rw [h2] at h;exact absurd h h1
 ·rw [h5];refine ⟨?_,by simp [h4]⟩;unfold kQ;rw [if_neg (by rw [h2];simp;omega),if_pos rfl];have:=Vk h4;simp [this]
 ·rw [h6];obtain ⟨n,-,-,hv,hb,-⟩:=adX h5;obtain ⟨g1,g2⟩:=QD hv;unfold kH at hb;have hb:=beq_iff_eq.1 hb;have hl:=(ajZ (x:=x) g1 g2).length_le;rw [cZ,List.length_singleton] at hl;obtain ⟨-,hrf⟩:=aks hs (by omega) hb;refine ⟨?_,by simp [h4]⟩;unfold kQ;rw [if_neg (by rw [h2];simp;omega),if_neg (by simp)];simp only [dH];exact ⟨Kr.2 ⟨g1,λi hi=>by have:=g2 i hi;omega⟩,rfl,hrf⟩
end
end K
theorem af' (a:aj) (l c:Nat) (w:World):(binOp .eql 45 (.slice a l c) (.slice none 0 0)).run Tryz.prog w=.ok (.bool a.isNone) w:=Go.run_eql_slice_nil w 45 158 a l c Tryz.underlying45
def OW (B:Nat) (A:aj) (n:Nat):Prop:=0 < n->∀ ad,A=some ad->B<=ad.block
theorem agO {w:World} {base:Nat} {e:TypeId} {size n m c:Nat} {A:aj} {xs:List Value} (h:w.ownsRow base e size (.slice A n c) m xs):OW base A n:=λ_ ad e=>by
 subst e;obtain ⟨-,-,-,-,h3⟩:=fP h;exact (h3 _ rfl).1
theorem afY (A:aj) (n c:Nat) (l:List (Int × Int)) (w:World) (hl:dA w A n l) (hn:n<=1000000) :
  ay 196 #[.slice A n c] w λe w'=>(∃ A' c',e=.returned (.slice A' n c')/\dA w' A' n l/\OW w.heap.size A' n)/\af w w':=by
 obtain ⟨i0,hi,hz0,hz1,hz2⟩:=info_parts Tryz.info158;have heq:=af';cases A with
 | none =>
  go_enter Tryz.func196,Tryz.ntmps196;go_wp2_with fail;go_ret;have h0:n=0:=by
   cases n with
   | zero=>rfl
   | succ n=>obtain ⟨ad,e,_⟩:=hl.2.2 (by omega);cases e
  subst h0;have hl0:l=[]:=List.length_eq_zero_iff.1 hl.1.symm;subst hl0;exact ⟨⟨none,0,rfl,⟨rfl,rfl,λh=>absurd h (by omega)⟩,λh=>absurd h (by omega)⟩,ai⟩
 | some ad =>
  have iK:(w.alloc (.cells #[] 158)).ownsRow w.heap.size 158 2 (.slice (some ⟨w.heap.size,0,none⟩) 0 0) 0 []:=World.ownsRow_lit w #[] 0 (zG _) (by simp only [maxLen];omega) (by simp);have hb0:=(dK w).alloc (zG _) (.cells #[] 158);go_enter Tryz.func196,Tryz.ntmps196;go_wp2_with (at_builtin;refine nU rfl (.tmp 5) (.tmp 6) 45 rfl w.heap.size 158 i0 (.agg #[.int .i64 0,.int .i64 0]) 2 16 Tryz.underlying45 hi hz0 hz1 hz2 rfl (by decide) _ 0 _ rfl iK (some ad) n c (qP l) rfl (hl.below hb0).2 (amF l) (by simp only [maxLen];omega) (by omega) (by first | (simp;done) | (simp;omega)) ?_;intro v' w4 hown4 hgrow4 uj);rw [Nat.zero_add] at hown4;have hb4:af w w4:=uU hb0 (zG _) hgrow4 (λg h=>(iK.lt g h).1);clear hgrow4 uj;obtain ⟨A',c',rfl,hR,-⟩:=fP hown4;have hF:=agO hown4;rw [List.nil_append] at hR;go_wp2_with fail;go_ret;exact ⟨⟨_,_,rfl,⟨hl.1,hR⟩,hF⟩,hb4⟩
def J6 (w:World) (g:Nat) (y0 y1 y2 y3 y4 y5 y6:Value):World:=((((((w.setCell ⟨g,0,none⟩ y0).setCell ⟨g,1,none⟩ y1).setCell ⟨g,2,none⟩ y2).setCell ⟨g,3,none⟩ y3).setCell ⟨g,4,none⟩ y4).setCell ⟨g,5,none⟩ y5).setCell ⟨g,6,none⟩ y6
theorem alG {w:World} {g:Nat} {x0 x1 x2 x3 x4 x5 x6:Value} {t:TypeId} (h:w.heap[g]? = some (.cells #[x0,x1,x2,x3,x4,x5,x6] t (0,0))) (y0 y1 y2 y3 y4 y5 y6:Value):(J6 w g y0 y1 y2 y3 y4 y5 y6).heap[g]? = some (.cells #[y0,y1,y2,y3,y4,y5,y6] t (0,0)):=by
 have c0:=di h 0 y0;have c1:=di c0 1 y1;have c2:=di c1 2 y2;have c3:=di c2 3 y3;have c4:=di c3 4 y4;have c5:=di c4 5 y5;have c6:=di c5 6 y6;have e:((((((((#[x0,x1,x2,x3,x4,x5,x6]:Array Value).setIfInBounds 0 y0).setIfInBounds 1 y1).setIfInBounds 2 y2).setIfInBounds 3 y3).setIfInBounds 4 y4).setIfInBounds 5 y5).setIfInBounds 6 y6)=#[y0,y1,y2,y3,y4,y5,y6]:=by simp only [List.setIfInBounds_toArray,List.set_cons_zero,List.set_cons_succ]
 rw [e] at c6;exact c6
theorem alF {B:Nat} {a w:World} {g:Nat} (h:Below B a w) (hg:B<=g) (y0 y1 y2 y3 y4 y5 y6:Value):Below B a (J6 w g y0 y1 y2 y3 y4 y5 y6) :=
 ((((((h.setCell (p:=⟨g,0,none⟩) hg y0).setCell (p:=⟨g,1,none⟩) hg y1).setCell (p:=⟨g,2,none⟩) hg y2).setCell (p:=⟨g,3,none⟩) hg y3).setCell (p:=⟨g,4,none⟩) hg y4).setCell (p:=⟨g,5,none⟩) hg y5).setCell (p:=⟨g,6,none⟩) hg y6
theorem Yn (q:Q) (w:World) (hq:dA w q.A q.n q.l) (hn:q.n<=1000000) :
  ay 148 #[iL q] w λe w'=>(∃ A' c',e=.returned (.agg #[.int .i64 q.node,.int .i64 q.room,.int .i64 q.a_,.int .i64 q.service,.int .i64 q.aI,.int .i64 q.aP,.slice A' q.n c'])/\dA w' A' q.n q.l/\OW w.heap.size A' q.n)/\af w w':=by
 obtain ⟨g,hg⟩:=zB w.heap.size;obtain ⟨w0,hw0⟩:=zB (w.alloc (.cells #[.int .i64 q.node,.int .i64 q.room,.int .i64 q.a_,.int .i64 q.service,.int .i64 q.aI,.int .i64 q.aP,.slice q.A q.n q.c] 47));have b0:=aH hw0;have z0:w0.heap.size=w.heap.size + 1:=by rw [hw0];exact aF _ _
 have hB0:dV w0 g q:=by rw [hw0,hg];exact dV.new _ _
 obtain ⟨w1,hw1⟩:=zB (w0.alloc (.cells #[.int .i64 0,.int .i64 0,.int .i64 0,.int .i64 0,.int .i64 0,.int .i64 0,.slice none 0 0] 47));have b1:=aH hw1;have hB2:w1.heap[g + 1]? = some (.cells #[.int .i64 0,.int .i64 0,.int .i64 0,.int .i64 0,.int .i64 0,.int .i64 0,.slice none 0 0] 47 (0,0)):=by rw [hw1,hg,<-z0];exact aA _ _
 have hB1:=hB0.below b1;have hb1:=bel b0 b1;have c6:=hB1.cells.2.2.2.2.2.2;have hgg:w.heap.size<=g:=by omega
 have ahs:g + 1 < w1.heap.size:=(l_.1 hB2).1;rw [hw1,hw0,hg] at c6;go_enter Tryz.func148,Tryz.ntmps148;go_wp2_with fail;rw [<-hw0,<-hw1,<-hg];clear hw1 hw0 hg hB0 z0 b0 b1 c6;refine (afY q.A q.n q.c q.l w1 (hq.below hb1) hn).mono ?_;rintro e w2 ⟨⟨A',c',rfl,hW,hF⟩,b2⟩;have hb2:=bel hb1 b2;have hsz:=hb1.size;have hB1:=hB1.below b2;have hB2:=au b2 hB2;obtain ⟨c0,c1,c2,c3,c4,c5,c6⟩:=hB1.cells;have f1:=b_ hB1;have f2:=b_ hB2;obtain ⟨e0,e1,e2,e3,e4,e5,e6⟩:=zX7 hB2;have hwl:∀ (h0:0 < q.n) ad,A'=some ad->w.heap.size<=ad.block:=λh0 ad e=>aN hsz (hF h0 ad e);have hgs:g + 1 < w1.heap.size:=ahs;have iq:=zC (show 0 < q.n->∀ ad,A'=some ad->ad.block ≠ g/\ad.block ≠ g + 1 from λh0 ad e=>by
  have h1:=hF h0 ad e;omega)
 go_wp2_with fail;obtain ⟨wy,hwy⟩:=zB (w2.setCell ⟨g,6,none⟩ (.slice A' q.n c'));obtain ⟨wz,hwz⟩:=zB (J6 wy (g + 1) (.int .i64 q.node) (.int .i64 q.room) (.int .i64 q.a_) (.int .i64 q.service) (.int .i64 q.aI) (.int .i64 q.aP) (.slice A' q.n c'));have hY:wy.heap[g + 1]? = some (.cells #[.int .i64 0,.int .i64 0,.int .i64 0,.int .i64 0,.int .i64 0,.int .i64 0,.slice none 0 0] 47 (0,0)):=by
  rw [hwy];exact (Sets.other [(⟨g,6,none⟩,.slice A' q.n c')] w2 (g + 1) (λp hp=>by rw [dB.1 hp];simp)).trans hB2
 have hZ:wz.heap[g + 1]? = some (.cells #[.int .i64 q.node,.int .i64 q.room,.int .i64 q.a_,.int .i64 q.service,.int .i64 q.aI,.int .i64 q.aP,.slice A' q.n c'] 47 (0,0)):=by
  rw [hwz];exact alG hY _ _ _ _ _ _ _
 have bz:af w wz:=by
  rw [hwz,hwy];exact alF (hb2.setCell (p:=⟨g,6,none⟩) hgg _) (by omega) _ _ _ _ _ _ _
 have hWz:dA wz A' q.n q.l:=by
  refine ⟨hW.1,hW.2.1,λh0=>?_⟩;obtain ⟨ad,e,hc⟩:=hW.2.2 h0;obtain ⟨n1,n2⟩:=iq.out h0 ad e;refine ⟨ad,e,λk u hu=>?_⟩;have h9:wz.heap[(ad.add k).block]? = w2.heap[(ad.add k).block]?:=by
   rw [hwz,hwy];refine Sets.other [(⟨g,6,none⟩,.slice A' q.n c'),(⟨g + 1,0,none⟩,.int .i64 q.node),(⟨g + 1,1,none⟩,.int .i64 q.room),(⟨g + 1,2,none⟩,.int .i64 q.a_),(⟨g + 1,3,none⟩,.int .i64 q.service),(⟨g + 1,4,none⟩,.int .i64 q.aI),(⟨g + 1,5,none⟩,.int .i64 q.aP),(⟨g + 1,6,none⟩,.slice A' q.n c')] w2 _ (λp hp=>?_);simp only [dw,List.not_mem_nil,or_false] at hp;rw [add_block];rcases hp with rfl | rfl | rfl | rfl | rfl | rfl | rfl | rfl
   ·exact λe=>n1 e.symm
   all_goals exact λe=>n2 e.symm
  exact (lg h9).trans (hc k u hu)
 unfold J6 at hwz;rw [<-hwy,<-hwz];refine jc (v:=.agg #[.int .i64 q.node,.int .i64 q.room,.int .i64 q.a_,.int .i64 q.service,.int .i64 q.aI,.int .i64 q.aP,.slice A' q.n c']) (results_cell_row rfl _ wz (g + 1) 47 _ (0,0) _ rfl hZ Tryz.underlying47 rfl (by kernel_rfl)) rfl ?_;exact ⟨⟨A',c',rfl,hWz,λh0 ad e=>hwl h0 ad e⟩,bz⟩
theorem dA.nD {w:World} {A:aj} {n:Nat} {l:List (Int × Int)} (h:dA w A n l) (h0:0 < n) {ad:Addr} (e:A=some ad):ad.block < w.heap.size:=by
 obtain ⟨ad',o,c,e',-,hc,-⟩:=h.at_ h0;rw [e] at e';injection e' with e';subst e';have:=cell_lt hc;rwa [add_block] at this
theorem dA.grow {w w':World} {A:aj} {n:Nat} {l:List (Int × Int)} {r:Option Nat} (h:dA w A n l) (hg:w.grownBy w' r) (hne:0 < n->∀ ad,A=some ad->some ad.block ≠ r):dA w' A n l:=by
 refine ⟨h.1,h.2.1,λh0=>?_⟩;obtain ⟨ad,e,hc⟩:=h.2.2 h0;refine ⟨ad,e,λj u hu=>?_⟩;have c:=hc j u hu;exact (lg (hg.block _ (cell_lt c) (by rw [add_block];exact hne h0 ad e))).trans c
def AP (w:World) (v:Value) (L:List Q):Prop:=∀ q ∈ L,dA w q.A q.n q.l/\iT q.A q.n v
theorem AP.below {w w':World} {v:Value} {L:List Q} (h:AP w v L) (hb:af w w'):AP w' v L:=λq hq=>⟨(h q hq).1.below hb,(h q hq).2⟩
theorem AP.snoc {w w':World} {v v':Value} {L:List Q} (h:AP w v L) {q:Q} (hq:dA w q.A q.n q.l) (ho:iT q.A q.n v) (hg:w.grownBy w' v.ownBlock) (ha:v'.ownBlock=v.ownBlock\/v'.ownBlock=some w.heap.size):AP w' v' (L ++ [q]):=λy hy=>by
 have h1:dA w y.A y.n y.l/\iT y.A y.n v:=by
  rcases dX.1 hy with hy | hy
  ·exact h y hy
  ·rw [dB.1 hy];exact ⟨hq,ho⟩
 refine ⟨h1.1.grow hg (λh0 ad e e2=>h1.2 h0 ad e e2.symm),λh0 ad e e2=>?_⟩;rcases ha with e3 | e3
 ·rw [e3] at e2;exact h1.2 h0 ad e e2
 ·rw [e3] at e2;injection e2 with e2;have:=h1.1.nD h0 e;omega
theorem ab5 {w:World} {base:Nat} {e:TypeId} {size n n' c:Nat} {A:aj} {xs:List Value} (h:w.ownsRow base e size (.slice A n' c) n xs):n<=c:=by
 obtain ⟨-,⟨e,e0⟩ | ⟨g',cap,cur,e,-,-,h9,-⟩⟩:=h
 ·rw [e0];exact aW _
 ·injection e with e1 e2 e3;rw [e3];exact h9
def NQ (B:Nat) (L:List Q):Prop:=∀ q ∈ L,0 < q.n->∀ ad,q.A=some ad->B<=ad.block
theorem NQ.snoc {B:Nat} {L:List Q} (h:NQ B L) {q:Q} (hq:0 < q.n->∀ ad,q.A=some ad->B<=ad.block):NQ B (L ++ [q]):=λy hy=>by
 rcases dX.1 hy with hy | hy
 ·exact h y hy
 ·rw [dB.1 hy];exact hq
def aeS (w w':World) (m:Nat) (M:List Q) (e:Ending):Prop :=
 (∃ A k L,e=.returned (.slice A m k)/\dm w' A m L/\L.map Q.bare=M.map Q.bare/\m<=k/\(∀ ad,A=some ad->w.heap.size<=ad.block)/\NQ w.heap.size L)/\af w w'
theorem adF {w:World} {A:aj} {n:Nat} {L M:List Q} (h:dm w A n L) (e:L.map Q.bare=M.map Q.bare) {N:Nat} (hM:∀ q ∈ M,q.l.length<=N):∀ q ∈ L,q.n<=N:=λq hq=>by
 have h1:=(h.2.2 q hq).1;have h2:q.bare ∈ M.map Q.bare:=by rw [<-e];exact fE.2 ⟨q,hq,rfl⟩
 obtain ⟨q',h3,h4⟩:=fE.1 h2;have h5:q'.l=q.l:=show q'.bare.l=q.bare.l by rw [h4]
 have:=hM q' h3;rw [h5] at this;omega
theorem Jr (B:aj) (n c:Nat) (r:List Q) (V:aj) (vn vc:Nat) (v:ag) (x:Q) (w:World) (hR:dm w B n r) (hV:Ints w V vn v) (hv:∀ i ∈ v,0<=i/\i < (r.length:Int)) (hX:dA w x.A x.n x.l)
  (hrn:∀ q ∈ r,q.n<=1000000) (zS:x.n<=1000000) (hvn:vn<=1000) :
  ay 95 #[.slice B n c,.slice V vn vc,iL x] w λe w'=>aeS w w' (vn + 1) (K.dD r v x) e:=by
 obtain ⟨g,hg⟩:=zB w.heap.size;obtain ⟨w1,hw1⟩:=zB (w.alloc (.cells #[.int .i64 x.node,.int .i64 x.room,.int .i64 x.a_,.int .i64 x.service,.int .i64 x.aI,.int .i64 x.aP,.slice x.A x.n x.c] 47));have b1:=aH hw1;have hB1:dV w1 g x:=by rw [hw1,hg];exact dV.new _ _
 have iR:=zC hV.1;have aS:=zC hR.1;go_enter Tryz.func95,Tryz.ntmps95;go_wp2_with fail;rw [<-hw1,<-hg];clear hw1 hg;have hown0:w1.ownsRow w1.heap.size 47 7 (.slice none 0 0) 0 (([]:List Q).flatMap Q.cells):=kF _ _ _ _;go_loopw [7,12] (λv7 v12 wr=>∃ (k:Nat) (L:List Q),v12=.int .i64 k/\k<=vn/\L.length=k/\wr.ownsRow w1.heap.size 47 7 v7 k (L.flatMap Q.cells)/\AP wr v7 L/\NQ w.heap.size L/\Hid (L.map Q.bare=((v.take k).map (K.req r)).map Q.bare)/\af w1 wr) (λ_ v12 _=>vn - (intOf v12).toNat)
 case atStart=>exact ⟨0,[],rfl,aW _,rfl,hown0,λq h=>(by cases h),λq h=>(by cases h),rfl,ai⟩
 case round =>
  clear hown0;obtain ⟨k,L,rfl,hk,hLk,hown,hok,hnq,xq,hbr⟩:=hrel;by_cases hlt:k < vn
  ·obtain ⟨jJ,i,Hf,rM,ci⟩:=(hV.below (bel b1 hbr)).at_ hlt;obtain ⟨j,rfl⟩:∃ j:Nat,i=(j:Int):=⟨i.toNat,by have:=(hv i (zD rM)).1;omega⟩;have hjn:j < n:=by have:=(hv _ (zD rM)).2;have:=aS.out;omega
   obtain ⟨j0,j1⟩:=zJ (a:=j) (b:=n) (by omega);obtain ⟨k0,k1⟩:=zJ (a:=k) (b:=vn) (by omega);obtain ⟨uT,q,hBa,hq,hW,c0,c1,c2,c3,c4,c5,c6⟩:=(hR.below (bel b1 hbr)).at_ hjn;have fU:=hrn q (zD hq);rw [Hf,hBa];go_wp2_with fail;refine (Yn q wr hW fU).mono ?_;rintro e w2 ⟨⟨A',c',rfl,hW2,hF2⟩,b2⟩;obtain ⟨g2,hg2⟩:=zB w2.heap.size;obtain ⟨w3,hw3⟩:=zB (w2.alloc (.cells #[.int .i64 q.node,.int .i64 q.room,.int .i64 q.a_,.int .i64 q.service,.int .i64 q.aI,.int .i64 q.aP,.slice A' q.n c'] 47));have b3:=aH hw3;have hB3:w3.heap[g2]? = some (.cells #[.int .i64 q.node,.int .i64 q.room,.int .i64 q.a_,.int .i64 q.service,.int .i64 q.aI,.int .i64 q.aP,.slice A' q.n c'] 47 (0,0)):=by rw [hw3,hg2];exact aA _ _
   have hoff:iT A' q.n u7:=λh0 ad e e2=>by
    have h1:=hF2 h0 ad e;have h2:=(hown.lt _ e2).2;omega
   have TP:NQ w.heap.size (L ++ [(⟨q.node,q.room,q.a_,q.service,q.aI,q.aP,A',q.n,c',q.l⟩:Q)]):=hnq.snoc (λh0 ad e=>by have h1:=hF2 h0 ad e;have h2:=b1.size;have h3:=hbr.size;omega);have bQ:=bel b2 b3;have hown3:=own_below hown bQ;have Ij:=hok.below bQ;have hW3:=hW2.below b3;have hb3:=bel hbr bQ;have hbs:=hb3.size;have hk9:k<=1000000:=by omega
   have bH:=zC (show (L ++ [(⟨q.node,q.room,q.a_,q.service,q.aI,q.aP,A',q.n,c',q.l⟩:Q)]).map Q.bare=((v.take (k + 1)).map (K.req r)).map Q.bare by
    rw [take_snoc rM,eG,eG,eG,xq.out,List.map_singleton,List.map_singleton,List.map_singleton,K.N9 hq];rfl)
   clear c0 c1 c2 c3 c4 c5 c6 ci rM hq hW hW2 hF2 hown hok xq hbr b2 b3 bQ Hf hBa;go_wp2_with (first
    | (at_builtin;rw [<-hw3,<-hg2];refine Kq rfl _ _ rfl w1.heap.size _ k L rfl hown3 g2 ⟨q.node,q.room,q.a_,q.service,q.aI,q.aP,A',q.n,c',q.l⟩ rfl hB3 hk9 hbs ?_;intro v6 w6 hown6 hgrow6 gy)
    | fail)
   have TW:=Ij.snoc (q:=⟨q.node,q.room,q.a_,q.service,q.aI,q.aP,A',q.n,c',q.l⟩) hW3 hoff hgrow6 gy;have hb6:af w1 w6:=dY hb3 hgrow6 (λg e=>(hown3.lt g e).1);clear Ij hown3 hgrow6 gy hB3 hw3;go_roundw
   case rel=>(go_light;exact ⟨k + 1,L ++ [(⟨q.node,q.room,q.a_,q.service,q.aI,q.aP,A',q.n,c',q.l⟩:Q)],by go_num,hlt,by rw [cZ,hLk];rfl,hown6,TW,TP,bH.out,hb6⟩)
   case measure=>(go_light;simp [intOf];omega)
  ·obtain ⟨hd,hd2⟩:=zL (a:=k) (b:=vn) (by omega);obtain ⟨c0,c1,c2,c3,c4,c5,c6⟩:=(hB1.below hbr).cells;obtain rfl:k=vn:=by omega
   go_wp2_with fail;refine (Yn x wr (hX.below (bel b1 hbr)) zS).mono ?_;rintro e w2 ⟨⟨A',c',rfl,hW2,hF2⟩,b2⟩;obtain ⟨g2,hg2⟩:=zB w2.heap.size;obtain ⟨w3,hw3⟩:=zB (w2.alloc (.cells #[.int .i64 x.node,.int .i64 x.room,.int .i64 x.a_,.int .i64 x.service,.int .i64 x.aI,.int .i64 x.aP,.slice A' x.n c'] 47));have b3:=aH hw3;have hB3:w3.heap[g2]? = some (.cells #[.int .i64 x.node,.int .i64 x.room,.int .i64 x.a_,.int .i64 x.service,.int .i64 x.aI,.int .i64 x.aP,.slice A' x.n c'] 47 (0,0)):=by rw [hw3,hg2];exact aA _ _
   have hoff:iT A' x.n u7:=λh0 ad e e2=>by
    have h1:=hF2 h0 ad e;have h2:=(hown.lt _ e2).2;omega
   have TP:NQ w.heap.size (L ++ [(⟨x.node,x.room,x.a_,x.service,x.aI,x.aP,A',x.n,c',x.l⟩:Q)]):=hnq.snoc (λh0 ad e=>by have h1:=hF2 h0 ad e;have h2:=b1.size;have h3:=hbr.size;omega);have bQ:=bel b2 b3;have hown3:=own_below hown bQ;have Ij:=hok.below bQ;have hW3:=hW2.below b3;have hb3:=bel hbr bQ;have hbs:=hb3.size;have hk9:k<=1000000:=by omega
   have bH:=zC (show (L ++ [(⟨x.node,x.room,x.a_,x.service,x.aI,x.aP,A',x.n,c',x.l⟩:Q)]).map Q.bare=(K.dD r v x).map Q.bare by
    unfold K.dD;rw [eG,eG,xq.out,fD (by have:=iR.out;omega)];rfl)
   clear c0 c1 c2 c3 c4 c5 c6 hW2 hF2 hown hok xq hbr b2 b3 bQ hd hd2;go_wp2_with (first
    | (at_builtin;rw [<-hw3,<-hg2];refine Kq rfl _ _ rfl w1.heap.size _ k L rfl hown3 g2 ⟨x.node,x.room,x.a_,x.service,x.aI,x.aP,A',x.n,c',x.l⟩ rfl hB3 hk9 hbs ?_;intro v6 w6 hown6 hgrow6 gy)
    | fail)
   have TW:=Ij.snoc (q:=⟨x.node,x.room,x.a_,x.service,x.aI,x.aP,A',x.n,c',x.l⟩) hW3 hoff hgrow6 gy;have hb6:af w1 w6:=dY hb3 hgrow6 (λg e=>(hown3.lt g e).1);have hcap:=hown6;obtain ⟨A9,c9,rfl,jL,rD⟩:=fP hown6;clear Ij hown3 hgrow6 gy hB3 hw3;go_wp2_with fail;go_ret;exact ⟨⟨A9,c9,_,rfl,⟨by rw [cZ,hLk];rfl,by rw [Ac];exact jL,λq hq=>(TW q hq).1⟩,bH.out,ab5 hcap,λad e=>aN b1.size (rD _ (by rw [e];rfl)).1,TP⟩,bel b1 hb6⟩
def upTo (n k:Nat):List Int:=K.iota k ++ List.replicate (n - k) 0
theorem amo (n:Nat):upTo n 0=List.replicate n 0:=by simp [upTo,K.iota]
theorem amm (n:Nat):upTo n n=K.iota n:=by simp [upTo]
theorem aef {n k:Nat} (h:k<=n):(upTo n k).length=n:=by simp [upTo,K.iota];omega
theorem amn {n k:Nat} (h:k < n):(upTo n k).set k (k:Int)=upTo n (k + 1):=by
 have h1:(K.iota k).length=k:=by simp [K.iota]
 unfold upTo;rw [List.set_append_right _ _ (by omega),h1,Nat.sub_self,show n - k=(n - (k + 1)) + 1 by omega,List.replicate_succ,List.set_cons_zero];unfold K.iota;rw [List.range_succ,eG,jb];rfl
theorem abT (n:Nat) (w:World) (hn:n<=1000):ay 96 #[.int .i64 n] w λe w'=>(∃ A c,e=.returned (.slice A n c)/\Ints w' A n (K.iota n))/\af w w':=by
 have hmk:=CX n (by omega);obtain ⟨h,hh⟩:=zB w.heap.size;obtain ⟨w1,hw1⟩:=zB (w.alloc (.cells (intCells (List.replicate n 0)).toArray 3));have b1:=aH hw1;have hI1:eU w1 h (upTo n 0):=by rw [hw1,hh,amo];exact aA _ _
 have hwh:w.heap.size<=h:=by omega
 go_enter Tryz.func96,Tryz.ntmps96;go_wp2_with fail;rw [<-hw1,<-hh];clear hw1 hh hmk;go_loopw [9] (λv9 wr=>∃ k:Nat,v9=.int .i64 k/\k<=n/\eU wr h (upTo n k)/\af w wr) (λv9 _=>n - (intOf v9).toNat)
 case atStart=>exact ⟨0,rfl,aW _,hI1,b1⟩
 case round =>
  clear hI1 b1;obtain ⟨k,rfl,hk,hI,hbr⟩:=hrel;by_cases hlt:k < n
  ·obtain ⟨k0,k1⟩:=zJ (a:=k) (b:=n) (by omega);obtain ⟨x,hx⟩:∃ x,(upTo n k)[k]? = some x:=⟨_,zF (by rw [aef hk];exact hlt)⟩;have c0:=hI.cell hx;have f0:=hI.free k;have hI2:eU (wr.setCell ⟨h,k,none⟩ (.int .i64 (k:Int))) h (upTo n (k + 1)):=by rw [<-amn hlt];exact hI.set k k
   have hb2:af w (wr.setCell ⟨h,k,none⟩ (.int .i64 (k:Int))):=hbr.setCell (p:=⟨h,k,none⟩) hwh _;go_wp2_with fail;go_roundw
   case rel=>(go_light;exact ⟨k + 1,by go_num,hlt,hI2,hb2⟩)
   case measure=>(go_light;simp [intOf];omega)
  ·obtain rfl:k=n:=by omega
   have hd:decide ((k:Int) < (k:Int))=false:=by simp
   have hd2:decide (k < k)=false:=by simp
   have hz:=hI.ints;rw [aef (zG _),amm] at hz;go_wp2_with fail;go_ret;exact ⟨⟨_,_,rfl,hz⟩,hbr⟩
theorem YQ (nd:Int) (A:aj) (n c:Nat) (x:Q) (w:World) (hX:dA w x.A x.n x.l) (zS:x.n<=1000000000) :
  ay 94 #[.agg #[.int .i64 nd,.slice A n c],iL x] w (bg w (K.jw nd x)):=by
 obtain ⟨g,hg⟩:=zB w.heap.size;obtain ⟨w0,hw0⟩:=zB (w.alloc (.cells #[.int .i64 nd,.slice A n c] 24));have b0:=aH hw0;have z0:w0.heap.size=g + 1:=by rw [hw0,hg];exact aF _ _
 have hN0:Net w0 g nd A n c:=by rw [hw0,hg];exact Net.new _ _ _ _ _
 obtain ⟨w1,hw1⟩:=zB (w0.alloc (.cells #[.int .i64 x.node,.int .i64 x.room,.int .i64 x.a_,.int .i64 x.service,.int .i64 x.aI,.int .i64 x.aP,.slice x.A x.n x.c] 47));have b1:=aH hw1;have hB1:dV w1 (g + 1) x:=by rw [hw1,<-z0];exact dV.new _ _
 have hN1:=hN0.below b1;have hb1:=bel b0 b1;obtain ⟨c0,c1,c2,c3,c4,c5,c6⟩:=hB1.cells;have CR:=OG x w1 (hX.below hb1) zS;obtain ⟨z,hz⟩:=zB (T.right x);rw [<-hz] at CR;have HZ:=zC hz;go_enter Tryz.func94,Tryz.ntmps94;rw [hw1,hw0,hg] at c0 c1 c2 c3 c4 c5 c6;go_wp2_with fail;rw [<-hw0,<-hw1];refine CR.mono ?_;rintro e w2 ⟨rfl,b2⟩;clear hz CR c0 c1 c2 c3 c4 c5 c6 hw0 hw1;have kJ:=hN1.below b2;have hB2:=hB1.below b2;have p0:=kJ.c0;have q0:=hB2.cells.1;rw [hg] at p0 q0;have hb2:=bel hb1 b2;cases z
 ·go_wp2_with fail;go_ret;exact ⟨by unfold K.jw;rw [<-HZ.out];rfl,hb2⟩
 ·go_wp2_with fail;go_ret;exact ⟨by unfold K.jw;rw [<-HZ.out];rfl,hb2⟩
abbrev pK (w:World) (x:Cs) (q:Q):World->Prop:=λw':World=>aJ w' w.heap.size 0 x.nd/\bT w' w.heap.size 1 x.A x.n x.c/\bT w' w.heap.size 2 x.SA x.sn x.sc/\bT w' w.heap.size 3 x.B x.m x.d/\aJ w' (w.heap.size + 1) 0 q.node/\aJ w' (w.heap.size + 1) 1 q.room/\aJ w' (w.heap.size + 1) 2 q.a_/\aJ w' (w.heap.size + 1) 3 q.service/\aJ w' (w.heap.size + 1) 4 q.aI/\aJ w' (w.heap.size + 1) 5 q.aP/\bT w' (w.heap.size + 1) 6 q.A q.n q.c
def iY (w:World) (g:Nat) (x:Cs):Prop:=w.heap[g]? = some (.cells #[.int .i64 x.nd,.slice x.A x.n x.c,.slice x.SA x.sn x.sc,.slice x.B x.m x.d] 44 (0,0))
theorem iY.below {w w':World} {g:Nat} {x:Cs} (h:iY w g x) (hb:af w w'):iY w' g x:=au hb h
theorem iY.new (w:World) (x:Cs):iY (w.alloc (.cells #[.int .i64 x.nd,.slice x.A x.n x.c,.slice x.SA x.sn x.sc,.slice x.B x.m x.d] 44)) w.heap.size x:=aA w _
def BQ (g:Nat) (x:Cs) (q:Q) (w':World):Prop:=(λw':World=>aJ w' g 0 x.nd/\bT w' g 1 x.A x.n x.c/\bT w' g 2 x.SA x.sn x.sc/\bT w' g 3 x.B x.m x.d /\
 aJ w' (g + 1) 0 q.node/\aJ w' (g + 1) 1 q.room/\aJ w' (g + 1) 2 q.a_/\aJ w' (g + 1) 3 q.service/\aJ w' (g + 1) 4 q.aI/\aJ w' (g + 1) 5 q.aP/\bT w' (g + 1) 6 q.A q.n q.c) w'
theorem BQ.mk' {w:World} {g:Nat} {x:Cs} {q:Q} (h1:iY w g x) (h2:dV w (g + 1) q):BQ g x q w :=
 ⟨ah h1 0 _ rfl,ah h1 1 _ rfl,ah h1 2 _ rfl,ah h1 3 _ rfl,h2.cells⟩
structure lI (w:World) (x:Cs) (q:Q):Prop where
 cs:eu w x
 req:dA w q.A q.n q.l
 m:x.m<=100
 qs:∀ p ∈ x.r,p.n<=1000000
 q:q.n<=1000000
theorem lI.below {w w':World} {x:Cs} {q:Q} (h:lI w x q) (hb:af w w'):lI w' x q:=⟨h.cs.below hb,h.req.below hb,h.m,h.qs,h.q⟩
theorem lI.len {w:World} {x:Cs} {q:Q} (h:lI w x q) (v:ag):∀ p ∈ K.dD x.r v q,p.l.length<=1000000:=λp hp=>by
 unfold K.dD at hp;rcases dX.1 hp with hp | hp
 ·obtain ⟨i,-,rfl⟩:=fE.1 hp;unfold K.req;cases hi:x.r[i.toNat]? with
  | none=>exact aW _
  | some p =>
   have hm:=zD hi;have h1:=(h.cs.bf.2.2 p hm).1;have h2:=h.qs p hm;show p.l.length<=_;omega
 ·rw [dB.1 hp];have h1:=h.req.1;have h2:=h.q;omega
def Cs.with_ (x:Cs) (A:aj) (m k:Nat) (L:List Q):Cs:=⟨x.nd,x.A,x.n,x.c,x.l,x.SA,x.sn,x.sc,x.ss,A,m,k,L⟩
theorem lI.case {w w':World} {x:Cs} {q:Q} (h:lI w x q) (hb:af w w') {A:aj} {m k:Nat} {L:List Q} {v:ag} (hL:dm w' A m L) (e:L.map Q.bare=(K.dD x.r v q).map Q.bare) (hm:m<=1000000):eu w' (x.with_ A m k L) :=
 ⟨(h.cs.below hb).net,(h.cs.below hb).shifts,hL,h.cs.b1,h.cs.b2,h.cs.b3,(show m<=1000000000 by omega),λp hp=>by have:=adF hL e (h.len v) p hp;omega⟩
theorem afC (x:Cs) (q:Q) (V:aj) (vn vc:Nat) (v:ag) (w:World) (hx:lI w x q) (hV:Ints w V vn v) (hv:∀ i ∈ v,0<=i/\i < (x.r.length:Int)) (hvn:vn<=1000) :
  ay 151 #[lm x,.slice V vn vc,iL q] w (bg w (K.kH x.nd x.l x.ss x.r q v)):=by
 obtain ⟨g,hg⟩:=zB w.heap.size;obtain ⟨w0,hw0⟩:=zB (w.alloc (.cells #[.int .i64 x.nd,.slice x.A x.n x.c,.slice x.SA x.sn x.sc,.slice x.B x.m x.d] 44));have b0:=aH hw0;have z0:w0.heap.size=g + 1:=by rw [hw0,hg];exact aF _ _
 have hN0:iY w0 g x:=by rw [hw0,hg];exact iY.new _ _
 obtain ⟨wb,hw1⟩:=zB (w0.alloc (.cells #[.int .i64 q.node,.int .i64 q.room,.int .i64 q.a_,.int .i64 q.service,.int .i64 q.aI,.int .i64 q.aP,.slice q.A q.n q.c] 47));have b1:=aH hw1;have hB1:dV wb (g + 1) q:=by rw [hw1,<-z0];exact dV.new _ _
 have hN1:=hN0.below b1;have hb1:=bel b0 b1;have hmk:∀ w',af wb w'->BQ g x q w':=λw' h=>BQ.mk' (hN1.below h) (hB1.below h);have hbd:af wb wb.drew:=ai.drew;have S0:=hmk _ ai;have aQ:=hmk _ hbd;have hxb:=hx.below hb1;have Si:=hV.below hb1;obtain ⟨pz,hpz⟩:=zB ((K.plan x.nd x.l x.ss (K.dD x.r v q)).2);have HX:=zC (show K.kH x.nd x.l x.ss x.r q v=(pz == 4) by unfold K.kH;rw [<-hpz]);have DF:=zC (show ∀ L:List Q,L.map Q.bare=(K.dD x.r v q).map Q.bare->(K.plan x.nd x.l x.ss L).2=pz from λL e=>by rw [hpz,K.Ja e rfl]);have Ig:=hx.m;clear hpz;go_enter Tryz.func151,Tryz.ntmps151;go_upto_region 1 with fail;rw [<-hw0,<-hw1];clear hw0 hw1 z0 hN0 b0 b1 hB1 hN1;unfold BQ at S0 aQ hmk;subst hg
 go_region_held3 (pK w x q)
  (with_reducible first | exact S2 | exact S1 | exact aQ | exact S0 | fail)
  (first
   | (go_at_call 95;refine (Jr x.B x.m x.d x.r V vn vc v q _ (hxb.below hbd).cs.bf (Si.below hbd) hv (hxb.below hbd).req hx.qs hx.q hvn).mono ?_;rintro e wc ⟨⟨A1,k1,L1,rfl,hL1,hLb,hk1,-,-⟩,bc⟩;have bc2:=bel hbd bc;have S1:=hmk _ bc2)
   | (go_at_call 20;refine (Vg (x.with_ A1 (vn + 1) k1 L1) _ (hxb.case bc2 hL1 hLb (by omega))).mono ?_;rintro e wd ⟨⟨PA,pn,pc,pl,rfl,-,-,-⟩,bd⟩;have pV:=bel bc2 bd;have S2:=hmk _ pV)
   | fail)
 have hz:(K.plan (x.with_ A1 (vn + 1) k1 L1).nd (x.with_ A1 (vn + 1) k1 L1).l (x.with_ A1 (vn + 1) k1 L1).ss (x.with_ A1 (vn + 1) k1 L1).r).2=pz:=DF.out L1 hLb;rw [hz];go_wp2_with fail;go_ret;exact ⟨by rw [HX.out];rfl,bel hb1 pV⟩
theorem QL {α:Type} (f:α->List Value) (h:∀ x,∀ u ∈ f x,u.oneCell'=true) (l:List α):∀ u ∈ l.flatMap f,u.oneCell'=true:=λu hu=>by
 obtain ⟨x,-,h2⟩:=List.mem_flatMap.1 hu;exact h x u h2
theorem akL (x:Ro):∀ u ∈ qN x,u.oneCell'=true:=by
 intro u hu;simp only [qN,dw,List.not_mem_nil,or_false] at hu;rcases hu with rfl | rfl | rfl | rfl <;> rfl
theorem acT (x:Q):∀ u ∈ Q.cells x,u.oneCell'=true:=by
 intro u hu;simp only [Q.cells,dw,List.not_mem_nil,or_false] at hu;rcases hu with rfl | rfl | rfl | rfl | rfl | rfl | rfl <;> rfl
theorem af9 (a:aj) (l c:Nat) (w:World):(binOp .eql 22 (.slice a l c) (.slice none 0 0)).run Tryz.prog w=.ok (.bool a.isNone) w:=Go.run_eql_slice_nil w 22 134 a l c Tryz.underlying22
theorem afU:(Tryz.prog.info? 134).map (λi=>(i.zero,i.size,i.bytes))=some (some (.agg #[.int .i64 0,.int .i64 0,.int .i64 0,.int .i64 0]),4,32):=by kernel_rfl
theorem afT (A:aj) (n c:Nat) (xs:List Value) (w:World) (hl:Rd w 4 A n xs) (h1:∀ u ∈ xs,u.oneCell'=true) (hn:n<=1000000) :
  ay 149 #[.slice A n c] w λe w'=>(∃ v,e=.returned v/\w'.ownsRow w.heap.size 134 4 v n xs)/\af w w':=by
 obtain ⟨i0,hi,hz0,hz1,hz2⟩:=info_parts afU;have heq:=af9;cases A with
 | none =>
  go_enter Tryz.func149,Tryz.ntmps149;go_wp2_with fail;go_ret;have h0:n=0:=by
   cases n with
   | zero=>rfl
   | succ n=>obtain ⟨ad,e,_⟩:=hl.2 (by omega);cases e
  subst h0;have hl0:xs=[]:=List.length_eq_zero_iff.1 (by have:=hl.1;omega);subst hl0;exact ⟨⟨_,rfl,kF _ _ _ _⟩,ai⟩
 | some ad =>
  have iK:(w.alloc (.cells #[] 134)).ownsRow w.heap.size 134 4 (.slice (some ⟨w.heap.size,0,none⟩) 0 0) 0 []:=World.ownsRow_lit w #[] 0 (zG _) (by simp only [maxLen];omega) (by simp);have hb0:=(dK w).alloc (zG _) (.cells #[] 134);go_enter Tryz.func149,Tryz.ntmps149;go_wp2_with (at_builtin;refine nU rfl (.tmp 5) (.tmp 6) 22 rfl w.heap.size 134 i0 (.agg #[.int .i64 0,.int .i64 0,.int .i64 0,.int .i64 0]) 4 32 Tryz.underlying22 hi hz0 hz1 hz2 rfl (by decide) _ 0 _ rfl iK (some ad) n c xs rfl (hl.below hb0) h1 (by simp only [maxLen];omega) (by omega) (by first | (simp;done) | (simp;omega)) ?_;intro v' w4 hown4 hgrow4 uj);rw [Nat.zero_add] at hown4;have hb4:af w w4:=uU hb0 (zG _) hgrow4 (λg h=>(iK.lt g h).1);clear hgrow4 uj;go_wp2_with fail;go_ret;exact ⟨⟨_,rfl,hown4⟩,hb4⟩
theorem af_ (a:aj) (l c:Nat) (w:World):(binOp .eql 25 (.slice a l c) (.slice none 0 0)).run Tryz.prog w=.ok (.bool a.isNone) w:=Go.run_eql_slice_nil w 25 63 a l c Tryz.underlying25
theorem afW:(Tryz.prog.info? 63).map (λi=>(i.zero,i.size,i.bytes))=some (some (.agg #[.int .i64 0,.int .i64 0,.int .i64 0,.int .i64 0,.int .i64 0,.slice none 0 0]),6,64):=by kernel_rfl
theorem afV (A:aj) (n c:Nat) (xs:List Value) (w:World) (hl:Rd w 6 A n xs) (h1:∀ u ∈ xs,u.oneCell'=true) (hn:n<=1000000) :
  ay 150 #[.slice A n c] w λe w'=>(∃ v,e=.returned v/\w'.ownsRow w.heap.size 63 6 v n xs)/\af w w':=by
 obtain ⟨i0,hi,hz0,hz1,hz2⟩:=info_parts afW;have heq:=af_;cases A with
 | none =>
  go_enter Tryz.func150,Tryz.ntmps150;go_wp2_with fail;go_ret;have h0:n=0:=by
   cases n with
   | zero=>rfl
   | succ n=>obtain ⟨ad,e,_⟩:=hl.2 (by omega);cases e
  subst h0;have hl0:xs=[]:=List.length_eq_zero_iff.1 (by have:=hl.1;omega);subst hl0;exact ⟨⟨_,rfl,kF _ _ _ _⟩,ai⟩
 | some ad =>
  have iK:(w.alloc (.cells #[] 63)).ownsRow w.heap.size 63 6 (.slice (some ⟨w.heap.size,0,none⟩) 0 0) 0 []:=World.ownsRow_lit w #[] 0 (zG _) (by simp only [maxLen];omega) (by simp);have hb0:=(dK w).alloc (zG _) (.cells #[] 63);go_enter Tryz.func150,Tryz.ntmps150;go_wp2_with (at_builtin;refine nU rfl (.tmp 5) (.tmp 6) 25 rfl w.heap.size 63 i0 (.agg #[.int .i64 0,.int .i64 0,.int .i64 0,.int .i64 0,.int .i64 0,.slice none 0 0]) 6 64 Tryz.underlying25 hi hz0 hz1 hz2 rfl (by decide) _ 0 _ rfl iK (some ad) n c xs rfl (hl.below hb0) h1 (by simp only [maxLen];omega) (by omega) (by first | (simp;done) | (simp;omega)) ?_;intro v' w4 hown4 hgrow4 uj);rw [Nat.zero_add] at hown4;have hb4:af w w4:=uU hb0 (zG _) hgrow4 (λg h=>(iK.lt g h).1);clear hgrow4 uj;go_wp2_with fail;go_ret;exact ⟨⟨_,rfl,hown4⟩,hb4⟩
theorem afS:(Tryz.prog.info? 47).map (λi=>(i.zero,i.size,i.bytes))=some (some (.agg #[.int .i64 0,.int .i64 0,.int .i64 0,.int .i64 0,.int .i64 0,.int .i64 0,.slice none 0 0]),7,72):=by kernel_rfl
theorem Rd.sets {w:World} {size n:Nat} {A:aj} {xs:List Value} (h:Rd w size A n xs) (l:List (Addr × Value)) (hl:0 < n->∀ ad,A=some ad->∀ p ∈ l,p.1.block ≠ ad.block):Rd (Sets w l) size A n xs :=
 ⟨h.1,λhn=>by
  obtain ⟨ad,e,hc⟩:=h.2 hn;exact ⟨ad,e,λj u hu=>(lg (Sets.other l w _ (by rw [add_block];exact hl hn ad e))).trans (hc j u hu)⟩⟩
theorem ab8 {base:Nat} {e:TypeId} {size n:Nat} {v:Value} {xs:List Value}:∀ (l:List (Addr × Value)) {w:World},w.ownsRow base e size v n xs->(∀ p ∈ l,p.1.block < base)->(Sets w l).ownsRow base e size v n xs
 | [],_,h,_=>h
 | p :: l,_,h,hl=>ab8 l (ownsRow_setCell_below h (hl p (dJ ..)) _) λq hq=>hl q (dN _ hq)
theorem alO (x:S):∀ u ∈ S.cells x,u.oneCell'=true:=by
 intro u hu;simp only [S.cells,dw,List.not_mem_nil,or_false] at hu;rcases hu with rfl | rfl | rfl | rfl | rfl | rfl <;> rfl
def AY (w:World) (v:Value) (L:List S):Prop:=∀ s ∈ L,Ints w s.A s.n s.l/\iT s.A s.n v
theorem AY.below {w w':World} {v:Value} {L:List S} (h:AY w v L) (hb:af w w'):AY w' v L:=λq hq=>⟨(h q hq).1.below hb,(h q hq).2⟩
def S.gW (s:S) (A:aj) (c:Nat):S:=⟨s.day,s.ax,s.start,s.end_,s.aU,A,s.n,c,s.l⟩
theorem alI {L:List S} {k:Nat} {s:S} (hk:L[k]? = some s) (A:aj) (c:Nat):(L.flatMap S.cells).set (k * 6 + 5) (.slice A s.n c)=(L.set k (s.gW A c)).flatMap S.cells:=by
 induction L generalizing k with
 | nil=>cases hk
 | cons x L ih =>
  cases k with
  | zero =>
   rw [List.getElem?_cons_zero] at hk;injection hk with hk;subst hk;rfl
  | succ k =>
   rw [List.getElem?_cons_succ] at hk;rw [List.set_cons_succ,List.flatMap_cons,List.flatMap_cons,<-ih hk,show (k + 1) * 6 + 5=x.cells.length + (k * 6 + 5) by show _=6 + _;omega,List.set_append_right _ _ (by omega),Nat.add_sub_cancel_left]
theorem afa {L:List S} {k:Nat} {s:S} (hk:L[k]? = some s) (A:aj) (c:Nat):(L.set k (s.gW A c)).map S.bare=L.map S.bare:=by
 rw [List.map_set];apply List.ext_getElem?;intro i;rw [List.getElem?_set];by_cases e:k=i
 ·subst e;have hl:=(zE.1 hk).1;rw [if_pos rfl,bu,if_pos hl,dG,hk];rfl
 ·rw [if_neg e]
theorem Ints.sets {w:World} {A:aj} {n:Nat} {l:ag} (h:Ints w A n l) (m:List (Addr × Value)) (hl:0 < n->∀ ad,A=some ad->∀ p ∈ m,p.1.block ≠ ad.block):Ints (Sets w m) A n l:=⟨h.1,h.2.sets m hl⟩
theorem Ot {w:World} {g:Nat} {x0 x1 x2 x3:Value} {t:TypeId} (h:w.heap[g]? = some (.cells #[x0,x1,x2,x3] t (0,0))) (y0 y1 y2 y3:Value):(Sets w [(⟨g,0,none⟩,y0),(⟨g,1,none⟩,y1),(⟨g,2,none⟩,y2),(⟨g,3,none⟩,y3)]).heap[g]? = some (.cells #[y0,y1,y2,y3] t (0,0)):=by
 have c0:=di h 0 y0;have c1:=di c0 1 y1;have c2:=di c1 2 y2;have c3:=di c2 3 y3;simp only [List.setIfInBounds_toArray,List.set_cons_zero,List.set_cons_succ] at c3;exact c3
theorem Dt {g:Nat} {y0 y1 y2 y3:Value} {p:Addr × Value} (h:p ∈ [((⟨g,0,none⟩:Addr),y0),(⟨g,1,none⟩,y1),(⟨g,2,none⟩,y2),(⟨g,3,none⟩,y3)]):p.1.block=g:=by
 simp only [dw,List.not_mem_nil,or_false] at h;rcases h with rfl | rfl | rfl | rfl <;> rfl
def NS (b:Nat) (ss L:List S) (k:Nat):Prop:=∀ i s,L[i]? = some s->(i < k->0 < s.n->∀ ad,s.A=some ad->b<=ad.block)/\(k<=i->ss[i]? = some s)
theorem agN {L:List S} {k:Nat} {s:S} (hk:L[k]? = some s) (j:Nat) (hj:j < 6):(L.flatMap S.cells)[k * 6 + j]? = s.cells[j]?:=flat_get S.cells 6 (λ_=>rfl) L k s hk j hj
theorem book_any (x:Cs) (A:aj) (m1 d1:Nat) (w:World) (hR:gq w x.A x.n x.l) (hS:Shifts w x.SA x.sn x.ss) (hn:x.n<=1000000) (hsn:x.sn<=1000000) (hsr:∀ s ∈ x.ss,s.n<=1000000) :
  ay 97 #[.agg #[.int .i64 x.nd,.slice x.A x.n x.c,.slice x.SA x.sn x.sc,.slice x.B x.m x.d],.slice A m1 d1] w λe w'=>(∃ RA rc SA sc ss,e=.returned (.agg #[.int .i64 x.nd,.slice RA x.n rc,.slice SA x.sn sc,.slice A m1 d1])/\gq w' RA x.n x.l/\Shifts w' SA x.sn ss/\ss.map S.bare=x.ss.map S.bare/\(0 < x.n->∀ ad,RA=some ad->w.heap.size<=ad.block)/\(∀ ad,SA=some ad->w.heap.size<=ad.block)/\∀ s ∈ ss,0 < s.n->∀ ad,s.A=some ad->w.heap.size<=ad.block)/\af w w':=by
 obtain ⟨nd,RA,n,c,l,SA,sn,sc,ss,B,m,d,r⟩:=x;dsimp only at hR hS hn hsn hsr ⊢;clear r;obtain ⟨w0,hw0⟩:=zB (w.alloc (.cells #[.int .i64 nd,.slice RA n c,.slice SA sn sc,.slice B m d] 44));have b0:=aH hw0;have z0:w0.heap.size=w.heap.size + 1:=by rw [hw0];exact aF _ _
 have hN0:w0.heap[w.heap.size]? = some (.cells #[.int .i64 nd,.slice RA n c,.slice SA sn sc,.slice B m d] 44 (0,0)):=by rw [hw0];exact aA _ _
 obtain ⟨wb,hw1⟩:=zB (w0.alloc (.cells #[.int .i64 0,.slice none 0 0,.slice none 0 0,.slice none 0 0] 44));have b1:=aH hw1;have z1:wb.heap.size=w.heap.size + 2:=by rw [hw1,aF,z0]
 have hZ1:wb.heap[w.heap.size + 1]? = some (.cells #[.int .i64 0,.slice none 0 0,.slice none 0 0,.slice none 0 0] 44 (0,0)):=by rw [hw1,<-z0];exact aA _ _
 have hN1:=au b1 hN0;have hb1:=bel b0 b1;have hRb:gq wb RA n l:=aX.below hR hb1;have hSb:=hS.below hb1;have hmk:∀ w',af wb w'->(λw':World=>w'.cell? ⟨w.heap.size,0,none⟩=some (.int .i64 nd)/\w'.cell? ⟨w.heap.size,1,none⟩=some (.slice RA n c)/\w'.cell? ⟨w.heap.size,2,none⟩=some (.slice SA sn sc)/\w'.cell? ⟨w.heap.size,3,none⟩=some (.slice B m d)) w':=λw' h=>⟨ah (au h hN1) 0 _ rfl,ah (au h hN1) 1 _ rfl,ah (au h hN1) 2 _ rfl,ah (au h hN1) 3 _ rfl⟩;have hbd:af wb wb.drew:=ai.drew;have hzd:wb.drew.heap.size=wb.heap.size:=rfl;go_enter Tryz.func97,Tryz.ntmps97;go_upto_region 1 with fail;rw [<-hw0,<-hw1];clear hw0 hw1 z0 hN0 b0 b1;have eF:=zC hS.1.1;go_cut [10] from 7 to 18 (λv10 we=>∃ A1 k1 A2 k2 B2,v10=.slice A1 n k1/\we.heap[w.heap.size]? = some (.cells #[.int .i64 nd,.slice A1 n k1,.slice A2 sn k2,.slice A m1 d1] 44 (0,0))/\we.heap[w.heap.size + 1]? = some (.cells #[.int .i64 0,.slice none 0 0,.slice none 0 0,.slice none 0 0] 44 (0,0))/\gq we A1 n l/\we.ownsRow B2 63 6 (.slice A2 sn k2) sn (ss.flatMap S.cells)/\AY we (.slice A2 sn k2) ss/\(0 < n->∀ ad,A1=some ad->wb.heap.size<=ad.block/\ad.block < B2)/\wb.heap.size<=B2/\af w we)
 case first =>
  obtain ⟨p0,p1,p2,p3⟩:=hmk _ hbd;go_region_with (first
    | (go_at_call 149;refine (afT RA n c _ _ (hRb.below hbd).2 (QL _ akL _) hn).mono ?_;rintro e wc ⟨⟨v1,rfl,hown1⟩,bc⟩;obtain ⟨A1,k1,rfl,ZG,hF1⟩:=fP hown1;have bc2:=bel hbd bc;obtain ⟨c0,c1,c2,c3⟩:=hmk _ bc2)
    | (go_at_call 150;refine (afV SA sn sc _ _ (hSb.below bc2).1.2 (QL _ alO _) hsn).mono ?_;rintro e wd ⟨⟨v2,rfl,hown2⟩,bd⟩;obtain ⟨A2,k2,rfl,-,hF2⟩:=fP hown2;have pV:=bel bc2 bd;have RF:=au pV hN1;have f0:=b_ RF;obtain ⟨q0,q1,q2,q3⟩:=hmk _ pV)
    | fail)
  all_goals
   obtain ⟨we,hwe⟩:=zB (Sets wd [(⟨w.heap.size,1,none⟩,.slice A1 n k1),(⟨w.heap.size,2,none⟩,.slice A2 sn k2),(⟨w.heap.size,3,none⟩,.slice A m1 d1)]);have hwc:wb.heap.size<=wc.heap.size:=bc2.size;have hNe:we.heap[w.heap.size]? = some (.cells #[.int .i64 nd,.slice A1 n k1,.slice A2 sn k2,.slice A m1 d1] 44 (0,0)):=by
    rw [hwe];have e0:=di RF 1 (.slice A1 n k1);have e1:=di e0 2 (.slice A2 sn k2);have e2:=di e1 3 (.slice A m1 d1);simp only [List.setIfInBounds_toArray,List.set_cons_zero,List.set_cons_succ] at e2;exact e2
   have L9:we.heap[w.heap.size + 1]? = some (.cells #[.int .i64 0,.slice none 0 0,.slice none 0 0,.slice none 0 0] 44 (0,0)):=by
    rw [hwe];refine (Sets.other _ wd _ (λp hp=>?_)).trans (au pV hZ1);simp only [dw,List.not_mem_nil,or_false] at hp;rcases hp with rfl | rfl | rfl <;> simp
   have hRe:gq we A1 n l:=by
    rw [hwe];refine ⟨hRb.1,(ZG.below bd).sets _ (λh0 ad e p hp=>?_)⟩;have h9:=(hF1 ad.block (by rw [e];rfl)).1;simp only [dw,List.not_mem_nil,or_false] at hp;rcases hp with rfl | rfl | rfl <;> (dsimp only;omega)
   have LC:we.ownsRow wc.heap.size 63 6 (.slice A2 sn k2) sn (ss.flatMap S.cells):=by
    rw [hwe];refine ab8 _ hown2 (λp hp=>?_);simp only [dw,List.not_mem_nil,or_false] at hp;rcases hp with rfl | rfl | rfl <;> (dsimp only;omega)
   have hbe:af w we:=by
    rw [hwe];refine Sets.below _ _ _ (bel hb1 pV) (λp hp=>?_);simp only [dw,List.not_mem_nil,or_false] at hp;rcases hp with rfl | rfl | rfl <;> exact zG _
   have Ef:AY we (.slice A2 sn k2) ss:=λs hs=>by
    have h8:=(hS.2 s hs);refine ⟨h8.below hbe,λh0 ad e e2=>?_⟩;have h9:=(hF2 _ e2).1;have h7:=h8.nD h0 e;omega
   have GV:0 < n->∀ ad,A1=some ad->wb.heap.size<=ad.block/\ad.block < wc.heap.size:=λh0 ad e=>hF1 ad.block (by rw [e];rfl);simp only [Sets] at hwe;rw [<-hwe];clear hwe RF f0 q0 q1 q2 q3 p0 p1 p2 p3 hown2 hown1 ZG hF1 c0 c1 c2 c3;go_wp2_with fail;go_meet;exact ⟨A1,k1,A2,k2,wc.heap.size,rfl,hNe,L9,hRe,LC,Ef,GV,hwc,hbe⟩
 case rest =>
  obtain ⟨A1,k1,A2,k2,B2,rfl,hNe,L9,hRe,LC,Ef,GV,hwc,hbe⟩:=hcut;have p2:=ah hNe 2 _ rfl;have hwB:w.heap.size + 2<=B2:=by omega
  have JK:NS wb.heap.size ss ss 0:=λi s hs=>⟨λh=>absurd h (Nat.not_lt_zero _),λ_=>hs⟩;clear hmk hbd hzd hN1 hZ1 hb1 hRb hSb;go_wp2_with fail;clear p2;go_loopw [22] (λv22 wr=>∃ (k:Nat) (L:List S),v22=.int .i64 k/\k<=sn/\L.length=sn/\Hid (L.map S.bare=ss.map S.bare)/\wr.ownsRow B2 63 6 (.slice A2 sn k2) sn (L.flatMap S.cells)/\AY wr (.slice A2 sn k2) L/\NS wb.heap.size ss L k/\(∀ s ∈ L,s.n<=1000000)/\gq wr A1 n l/\wr.heap[w.heap.size]? = some (.cells #[.int .i64 nd,.slice A1 n k1,.slice A2 sn k2,.slice A m1 d1] 44 (0,0))/\wr.heap[w.heap.size + 1]? = some (.cells #[.int .i64 0,.slice none 0 0,.slice none 0 0,.slice none 0 0] 44 (0,0))/\af w wr) (λv22 _=>sn - (intOf v22).toNat)
  case atStart=>exact ⟨0,ss,rfl,aW _,eF.out.symm,rfl,LC,Ef,JK,hsr,hRe,hNe,L9,hbe⟩
  case round =>
   clear LC Ef JK hRe hNe L9 hbe;obtain ⟨k,L,rfl,hk,u_,hLb,hO,hok,hns,hln,hRr,hN,hZ,hbr⟩:=hrel;obtain ⟨p0,p1,p2,p3⟩:=gX hN;have qi:=zC u_;clear u_;by_cases hlt:k < sn
   ·obtain ⟨gs,cap,e,hg1,hg2⟩:=hO.form (by omega);injection e with e1 e2 e3;subst e1 e3;obtain ⟨s,hs⟩:∃ s,L[k]? = some s:=⟨_,zF (by rw [qi.out];exact hlt)⟩;obtain ⟨hI,hoff⟩:=hok s (zD hs);have Iz:=hln s (zD hs);obtain ⟨k0,k1⟩:=zJ (a:=k) (b:=sn) (by omega);have ce:∀ (W:World),W.ownsRow B2 63 6 (.slice (some ⟨gs,0,none⟩) sn k2) sn (L.flatMap S.cells)->∀ j (hj:j < 6),W.cell? ⟨gs,k * 6 + j,none⟩=s.cells[j]?:=λW hW j hj=>by
     rw [hW.cellAt (k * 6 + j) (by omega),agN hs j hj]
    have c0:wr.cell? ⟨gs,k * 6,none⟩=some (.int .i64 s.day):=ce wr hO 0 (by decide);have c1:wr.cell? ⟨gs,k * 6 + 1,none⟩=some (.int .i64 s.ax):=ce wr hO 1 (by decide);have c2:wr.cell? ⟨gs,k * 6 + 2,none⟩=some (.int .i64 s.start):=ce wr hO 2 (by decide);have c3:wr.cell? ⟨gs,k * 6 + 3,none⟩=some (.int .i64 s.end_):=ce wr hO 3 (by decide);have c4:wr.cell? ⟨gs,k * 6 + 4,none⟩=some (.int .i64 s.aU):=ce wr hO 4 (by decide);have c5:wr.cell? ⟨gs,k * 6 + 5,none⟩=some (.slice s.A s.n s.c):=ce wr hO 5 (by decide);have HCE:=zC ce;clear ce;obtain ⟨w5,hw5⟩:=zB (wr.alloc (.cells #[.int .i64 s.day,.int .i64 s.ax,.int .i64 s.start,.int .i64 s.end_,.int .i64 s.aU,.slice s.A s.n s.c] 63));obtain ⟨gx,hgx⟩:=zB wr.heap.size;have b5:=aH hw5;have xx:bI w5 gx s:=by rw [hw5,hgx];exact bI.new _ _
    have Rz:=au b5 hN;have Zv:=own_below hO b5;have aaA:=hok.below b5;have g_:=hI.below b5;have ahk:=bel hbr b5;have hne1:gs ≠ gx:=by omega
    have hne2:gs ≠ w.heap.size:=by omega
    have SN:af w5 w5.drew:=ai.drew;have hmk:∀ w',af w5 w'->(λw':World=>w'.cell? ⟨w.heap.size,2,none⟩=some (.slice (some ⟨gs,0,none⟩) sn k2)/\w'.cell? ⟨gx,5,none⟩=some (.slice s.A s.n s.c)) w':=λw' h=>⟨ah (au h Rz) 2 _ rfl,(xx.below h).c5⟩;have S0:=hmk _ ai;have aQ:=hmk _ SN;have aak:∀ (W:World) (u:Value),(λw':World=>w'.cell? ⟨w.heap.size,2,none⟩=some (.slice (some ⟨gs,0,none⟩) sn k2)/\w'.cell? ⟨gx,5,none⟩=some (.slice s.A s.n s.c)) W->(λw':World=>w'.cell? ⟨w.heap.size,2,none⟩=some (.slice (some ⟨gs,0,none⟩) sn k2)/\w'.cell? ⟨gx,5,none⟩=some (.slice s.A s.n s.c)) (W.setCell ⟨gs,k * 6 + 5,none⟩ u):=λW u h=>⟨(World.cell?_setCell_far W _ _ u hne2).trans h.1,(World.cell?_setCell_far W _ _ u hne1).trans h.2⟩;have hsz5:=b5.size;go_upto_region 5 with fail;rw [<-hw5];subst hgx;clear hw5 c0 c1 c2 c3 c4 c5
    go_region_held3 (λw':World=>w'.cell? ⟨w.heap.size,2,none⟩=some (.slice (some ⟨gs,0,none⟩) sn k2)/\w'.cell? ⟨wr.heap.size,5,none⟩=some (.slice s.A s.n s.c))
     (with_reducible first | exact S2 | exact S1 | exact aQ | exact S0 | fail)
     (first
      | (go_at_call 109;refine (yT s.A s.n s.c s.l _ (g_.below SN) Iz).mono ?_;rintro e w6 ⟨⟨v5,rfl,hown5⟩,b6⟩;obtain ⟨A5,c5,rfl,nM,Zd⟩:=fP hown5;have dR:=bel SN b6;have S1:=hmk _ dR;have hrow:=own_below Zv dR;have f5:=hrow.frozenAt (k * 6 + 5);have q5:w6.cell? ⟨gs,k * 6 + 5,none⟩=some (.slice s.A s.n s.c):=HCE.out w6 hrow 5 (by decide);have S2:=aak w6 (.slice A5 s.n c5) S1)
      | fail)
    have hst:=hrow.stored (k * 6 + 5) (.slice A5 s.n c5);obtain ⟨w7,hw7⟩:=zB (w6.setCell ⟨gs,k * 6 + 5,none⟩ (.slice A5 s.n c5));rw [<-hw7] at hst;obtain ⟨Zw,oG⟩:=hst;rw [alI hs] at Zw;have hb6:=bel ahk dR;have hb7:af w w7:=by rw [hw7];exact hb6.setCell (p:=⟨gs,k * 6 + 5,none⟩) (by dsimp only;omega) _
    have Lr:=iV oG (au dR Rz) (λe=>hne2 (by injection e with e;exact e.symm));have hZ7:=iV oG (au dR (au b5 hZ)) (λe=>by injection e with e;omega);have zg:gq w7 A1 n l:=⟨hRr.1,by
     have h9:=((aX.below (aX.below hRr b5) dR).2).sets [(⟨gs,k * 6 + 5,none⟩,.slice A5 s.n c5)] (λh0 ad e p hp=>by
      rw [dB.1 hp];have:=(GV h0 ad e).2;dsimp only;omega)
     simp only [Sets] at h9;rw [<-hw7] at h9;exact h9⟩
    have hgo:∀ t:S,Ints w6 t.A t.n t.l->iT t.A t.n (.slice (some ⟨gs,0,none⟩) sn k2)->Ints w7 t.A t.n t.l:=λt h1 h2=>h1.grow oG (λh0 ad e e2=>h2 h0 ad e e2.symm);have ry:0 < s.n->∀ ad,A5=some ad->w5.heap.size<=ad.block:=λh0 ad e=>(Zd ad.block (by rw [e];rfl)).1;have dS:Ints w6 A5 s.n s.l:=⟨hI.1,nM⟩;have TS:iT A5 s.n (.slice (some ⟨gs,0,none⟩) sn k2):=λh0 ad e e2=>by
     have h1:=ry h0 ad e;injection e2 with e2;dsimp only at e2;omega
    have ahM:AY w7 (.slice (some ⟨gs,0,none⟩) sn k2) (L.set k (s.gW A5 c5)):=λt ht=>by
     rcases List.mem_or_eq_of_mem_set ht with ht | rfl
     ·obtain ⟨h1,h2⟩:=aaA t ht;exact ⟨hgo t (h1.below dR) h2,h2⟩
     ·exact ⟨hgo (s.gW A5 c5) dS TS,TS⟩
    have ahK:NS wb.heap.size ss (L.set k (s.gW A5 c5)) (k + 1):=λi t ht=>by
     rw [List.getElem?_set] at ht;by_cases hki:k=i
     ·subst hki;rw [if_pos rfl,if_pos (by rw [qi.out];exact hlt)] at ht;injection ht with ht;subst ht;exact ⟨λ_ h0 ad e=>(by have h1:=ry h0 ad e;omega),λh=>absurd h (by omega)⟩
     ·rw [if_neg hki] at ht;obtain ⟨h1,h2⟩:=hns i t ht;exact ⟨λh=>h1 (by omega),λh=>h2 (by omega)⟩
    have ahB:∀ t ∈ L.set k (s.gW A5 c5),t.n<=1000000:=λt ht=>by
     rcases List.mem_or_eq_of_mem_set ht with ht | rfl
     ·exact hln t ht
     ·exact Iz
    have HB7:=zC (show (L.set k (s.gW A5 c5)).map S.bare=ss.map S.bare by rw [afa hs,hLb.out]);have HL7:=zC (show (L.set k (s.gW A5 c5)).length=sn by rw [List.length_set,qi.out]);rw [<-hw7];clear hw7 oG hrow f5 q5 S1 S2 S0 aQ hmk aak hown5 nM Zd ry dS TS hgo Zv aaA Rz xx hs hO hok hN hZ hRr hbr b6 dR;go_wp2_with fail;go_roundw
    case rel=>(go_light;exact ⟨k + 1,L.set k (s.gW A5 c5),by go_num,hlt,HL7.out,HB7.out,Zw,ahM,ahK,ahB,zg,Lr,hZ7,hb7⟩)
    case measure=>(go_light;simp [intOf];omega)
   ·obtain ⟨d3,d2⟩:=zL (a:=k) (b:=sn) (by omega);have f0:=b_ hZ;obtain ⟨z0,z1,z2,z3⟩:=gX hZ;go_wp2_with fail;obtain ⟨M,hM⟩:∃ M:List (Addr × Value),M=[(⟨w.heap.size + 1,0,none⟩,.int .i64 nd),(⟨w.heap.size + 1,1,none⟩,.slice A1 n k1),(⟨w.heap.size + 1,2,none⟩,.slice A2 sn k2),(⟨w.heap.size + 1,3,none⟩,.slice A m1 d1)]:=⟨_,rfl⟩;have iW:∀ p ∈ M,p.1.block=w.heap.size + 1:=λp hp=>by rw [hM] at hp;exact Dt hp
    obtain ⟨wz,hwz⟩:=zB (Sets wr M);have hZz:wz.heap[w.heap.size + 1]? = some (.cells #[.int .i64 nd,.slice A1 n k1,.slice A2 sn k2,.slice A m1 d1] 44 (0,0)):=by rw [hwz,hM];exact Ot hZ _ _ _ _
    have hbz:af w wz:=by rw [hwz];exact Sets.below M wr wr ai (λp hp=>by rw [iW p hp];omega) |> λh=>hbr.trans h
    have G7:gq wz A1 n l:=by rw [hwz];exact ⟨hRr.1,hRr.2.sets M (λh0 ad e p hp=>by rw [iW p hp];have:=(GV h0 ad e).1;omega)⟩
    obtain ⟨A9,c9,e9,jL,rD⟩:=fP hO;injection e9 with e1 e2 e3;subst e1;have hnw:∀ s ∈ L,0 < s.n->∀ ad,s.A=some ad->wb.heap.size<=ad.block:=λt ht h0 ad e=>by
     obtain ⟨i,hi,e2⟩:=List.getElem_of_mem ht;exact (hns i t (by rw [zF hi,e2])).1 (by have:=qi.out;omega) h0 ad e
    have hSz:Shifts wz A2 sn L:=by
     rw [hwz];refine ⟨⟨qi.out.symm,jL.sets M (λh0 ad e p hp=>by rw [iW p hp];have:=(rD ad.block (by rw [e];rfl)).1;omega)⟩,λt ht=>(hok t ht).1.sets M (λh0 ad e p hp=>by rw [iW p hp];have:=hnw t ht h0 ad e;omega)⟩
    simp only [hM,Sets] at hwz;rw [<-hwz];refine jc (v:=.agg #[.int .i64 nd,.slice A1 n k1,.slice A2 sn k2,.slice A m1 d1]) (results_cell_row rfl _ wz (w.heap.size + 1) 44 _ (0,0) _ rfl hZz Tryz.underlying44 rfl (by kernel_rfl)) rfl ?_;exact ⟨⟨A1,k1,A2,k2,L,rfl,G7,hSz,hLb.out,λh0 ad e=>(by have:=(GV h0 ad e).1;omega),λad e=>(by have:=(rD ad.block (by rw [e];rfl)).1;omega),λt ht h0 ad e=>(by have:=hnw t ht h0 ad e;omega)⟩,hbz⟩
namespace K
section
variable {nd : Int} {l : List Ro} {ss : List S} {r : List Q} {x : Q}
theorem YK (c:ag) (f:Nat):iC nd l ss r x c 0 f=if kH nd l ss r x c=true then some c else none:=by
 unfold iC;rw [A.dM,List.map_singleton,List.append_nil,List.find?_singleton]
theorem agr (c:ag) {n f:Nat} (h:r.length<=f):iC nd l ss r x c (n + 1) f=none:=by
 unfold iC;rw [A.dM,Nat.sub_eq_zero_of_le h];rfl
theorem ags (c:ag) {n f:Nat} (h:f < r.length):iC nd l ss r x c (n + 1) f=(iC nd l ss r x (c ++ [(f:Int)]) n (f + 1)).or (iC nd l ss r x c (n + 1) (f + 1)):=by
 have e:(A.dM r.length (n + 1) f).map (c ++ ·)=(A.dM r.length n (f + 1)).map ((c ++ [(f:Int)]) ++ ·) ++ (A.dM r.length (n + 1) (f + 1)).map (c ++ ·):=by
  rw [A.dM,A.dM,show r.length - f=(r.length - (f + 1)) + 1 by omega,List.range'_succ,List.flatMap_cons,eG,List.map_map];congr 1;refine List.map_congr_left λv _=>?_;show c ++ ((f:Int) :: v)=_;rw [jb];rfl
 unfold iC;rw [e,List.find?_append]
end
end K
def aeJ (B0:Nat) (w w':World) (o:Option (List Int)) (e:Ending):Prop :=
 (∃ A n k b,e=.returned (.tuple #[.slice A n k,.bool b])/\b=o.isSome/\(∀ v,o=some v->Ints w' A n v)/\∀ ad,A=some ad->B0<=ad.block)/\af w w'
theorem agt (x:Cs) (q:Q) (B0:Nat):∀ (many aI:Nat) (C:aj) (cn cc:Nat) (c:ag) (w:World),lI w x q->Ints w C cn c->(∀ i ∈ c,0<=i/\i < (x.r.length:Int))->cn + many<=500->aI<=x.m->B0<=w.heap.size->(∀ ad,C=some ad->B0<=ad.block) ->
  ay 98 #[lm x,iL q,.slice C cn cc,.int .i64 aI,.int .i64 many] w λe w'=>aeJ B0 w w' (K.iC x.nd x.l x.ss x.r q c many aI) e:=by
 intro many;induction many with
 | zero =>
  intro aI C cn cc c w hx hC hc hcn hf hB0 Zb;obtain ⟨w0,hw0⟩:=zB (w.alloc (.cells #[.int .i64 x.nd,.slice x.A x.n x.c,.slice x.SA x.sn x.sc,.slice x.B x.m x.d] 44));have b0:=aH hw0;have z0:w0.heap.size=w.heap.size + 1:=by rw [hw0];exact aF _ _
  have hN0:iY w0 w.heap.size x:=by rw [hw0];exact iY.new _ _
  obtain ⟨wb,hw1⟩:=zB (w0.alloc (.cells #[.int .i64 q.node,.int .i64 q.room,.int .i64 q.a_,.int .i64 q.service,.int .i64 q.aI,.int .i64 q.aP,.slice q.A q.n q.c] 47));have b1:=aH hw1;have hB1:dV wb (w.heap.size + 1) q:=by rw [hw1,<-z0];exact dV.new _ _
  have hN1:=hN0.below b1;have hb1:=bel b0 b1;have S0:=BQ.mk' hN1 hB1;unfold BQ at S0;obtain ⟨p0,p1,p2,p3,c0,c1,c2,c3,c4,c5,c6⟩:=S0;have CB:=afC x q C cn cc c wb (hx.below hb1) (hC.below hb1) hc (by omega);obtain ⟨z,hz⟩:=zB (K.kH x.nd x.l x.ss x.r q c);rw [<-hz] at CB;have HZ:=zC hz;rw [hw1,hw0] at p0 p1 p2 p3 c0 c1 c2 c3 c4 c5 c6;clear hz;go_enter Tryz.func98,Tryz.ntmps98;go_wp2_with fail;rw [<-hw0,<-hw1];refine CB.mono ?_;rintro e w2 ⟨rfl,b2⟩;clear p0 p1 p2 p3 c0 c1 c2 c3 c4 c5 c6 CB;go_wp2_with fail;go_ret2
  refine ⟨⟨C,cn,cc,z,rfl,?_,λv hv=>?_,Zb⟩,bel hb1 b2⟩
  ·rw [K.YK,<-HZ.out];cases z <;> rfl
  ·rw [K.YK,<-HZ.out] at hv;cases z
   ·cases hv
   ·injection hv with hv;subst hv;exact (hC.below hb1).below b2
 | succ many ih =>
  intro aI C cn cc c w hx hC hc hcn hf hB0 Zb;obtain ⟨w0,hw0⟩:=zB (w.alloc (.cells #[.int .i64 x.nd,.slice x.A x.n x.c,.slice x.SA x.sn x.sc,.slice x.B x.m x.d] 44));have b0:=aH hw0;have z0:w0.heap.size=w.heap.size + 1:=by rw [hw0];exact aF _ _
  have hN0:iY w0 w.heap.size x:=by rw [hw0];exact iY.new _ _
  obtain ⟨wb,hw1⟩:=zB (w0.alloc (.cells #[.int .i64 q.node,.int .i64 q.room,.int .i64 q.a_,.int .i64 q.service,.int .i64 q.aI,.int .i64 q.aP,.slice q.A q.n q.c] 47));have b1:=aH hw1;have hB1:dV wb (w.heap.size + 1) q:=by rw [hw1,<-z0];exact dV.new _ _
  have hN1:=hN0.below b1;have hb1:=bel b0 b1;have aC:=zC (show ∀ w',af wb w'->(pK w x q) w' from λw' h=>BQ.mk' (hN1.below h) (hB1.below h));have aS:=zC hx.cs.bf.1;have Ig:=hx.m;obtain ⟨M,hM⟩:=zB (many + 1);have kM:IntKind.i64.wrap ((M:Int) - 1)=(many:Int):=by rw [dh _ (by omega)];omega
  have hd:((M:Int) == 0)=false:=by simp;omega
  have hd2:decide ((M:Int)=0)=false:=by simp;omega
  have hd3:decide (M=0)=false:=by simp;omega
  rw [<-hM];obtain ⟨o,ho⟩:=zB (K.iC x.nd x.l x.ss x.r q c M aI);have HO:=zC ho;have HM:=zC hM;have IH:=zC ih;rw [<-ho];clear ho hM hN0 b0 z0 b1 ih;go_enter Tryz.func98,Tryz.ntmps98;go_wp2_with fail;rw [<-hw0,<-hw1];clear hw0 hw1 hd hd2 hd3;go_loopw [12] (λv12 wr=>∃ i:Nat,v12=.int .i64 i/\i<=x.m/\Hid (o=K.iC x.nd x.l x.ss x.r q c M i)/\af wb wr) (λv12 _=>x.m - (intOf v12).toNat)
  case atStart=>exact ⟨aI,rfl,hf,HO.out,ai⟩
  case round =>
   obtain ⟨i,rfl,hi,hoi,hbr⟩:=hrel;by_cases hlt:i < x.m
   ·obtain ⟨d1,d2⟩:=zK (a:=i) (b:=x.m) (by omega);have S0:=aC.out _ hbr;have MH:af wr wr.drew:=ai.drew;have hal:af wr (wr.alloc (.cells #[.int .i64 (i:Int)] 3)).drew:=(ai.alloc (zG _) _).drew;have aQ:=aC.out _ (bel hbr MH);have uP:=aC.out _ (bel hbr hal);have S0b:=aC.out _ (bel hbr (ai.alloc (zG _) (.cells #[.int .i64 (i:Int)] 3)));obtain ⟨i1,hi1⟩:=zB (i + 1);have kI:IntKind.i64.wrap ((i:Int) + 1)=(i1:Int):=by rw [dh _ (by omega)];omega
    have hi6:i1<=x.m:=by omega
    have HI1:=zC hi1;have Tf:cn<=1000000:=by omega
    have ahn:cn + 1 + many<=500:=by omega
    have hxr:=hx.below (bel hb1 hbr);have QW:B0<=wr.heap.size:=aN hB0 (bel hb1 hbr).size;have hCr:=hC.below (bel hb1 hbr);have hc6:∀ j ∈ c ++ [(i:Int)],0<=j/\j < (x.r.length:Int):=λj hj=>by
     rcases dX.1 hj with hj | hj
     ·exact hc j hj
     ·rw [dB.1 hj];have:=aS.out;omega
    obtain ⟨o1,ho1⟩:=zB (K.iC x.nd x.l x.ss x.r q (c ++ [(i:Int)]) many i1);have JL:=zC ho1;have HST:=zC (show o=o1.or (K.iC x.nd x.l x.ss x.r q c M i1) by
     rw [hoi.out,ho1,HM.out,hi1];exact K.ags c (by have:=aS.out;omega))
    clear hi1 ho1 hoi;go_upto_region 6 with fail
    go_region_held3 (pK w x q)
     (with_reducible first | exact S7 | exact S6 | exact S5a | exact S5 | exact uP | exact aQ | exact S0b | exact S0 | fail)
     (first
      | (go_at_call 109;refine (yT C cn cc c _ (hCr.below ?_) Tf).mono ?_;(with_reducible first | exact MH | exact hal | fail);rintro e w5 ⟨⟨v5,rfl,hown5⟩,b5⟩;(first | (have hL5:=au b5 (aA wr (.cells #[.int .i64 (i:Int)] 3));have jv:=bel hal b5) | have jv:=bel MH b5 | fail);have S5:=aC.out _ (bel hbr jv);have yO:af w5 (w5.alloc (.cells #[.int .i64 (i:Int)] 3)):=ai.alloc (zG _) _;have S5a:=aC.out _ (bel hbr (bel jv yO));have aab:=b5.size)
      | (have h9:=hown5;clear hown5;refine Ov rfl (.tmp 34) (.tmp 36) rfl h9 aab rfl wr.heap.size (i:Int) rfl ai hL5 Tf ?_;intro A6 c6 w6 dS Bo kK hb6;have dR:=jv.trans (hb6.mono hal.size);have Y2:∀ ad,A6=some ad->B0<=ad.block:=λad e=>aN (aN QW hal.size) (Bo ad e);have S6:=aC.out _ (bel hbr dR))
      | (have h9:=hown5;clear hown5;refine Ov rfl (.tmp 34) (.tmp 36) rfl h9 aab rfl w5.heap.size (i:Int) rfl yO (aA w5 _) Tf ?_;intro A6 c6 w6 dS Bo kK hb6;have dR:=(bel jv yO).trans (hb6.mono MH.size);have Y2:∀ ad,A6=some ad->B0<=ad.block:=λad e=>aN QW (Bo ad e);have S6:=aC.out _ (bel hbr dR))
      | (go_at_call 98;refine (IH.out i1 A6 (cn + 1) c6 (c ++ [(i:Int)]) _ (hxr.below dR) dS hc6 ahn hi6 (aN QW dR.size) Y2).mono ?_;rw [<-JL.out];rintro e w7 ⟨⟨A7,n7,k7,z7,rfl,rP,oz,Q4⟩,b7⟩;have HF7:=zC Q4;have HZ7:=zC rP;have HI7:=zC oz;clear rP oz Q4;have fJ:=bel dR b7;have S7:=aC.out _ (bel hbr fJ))
      | fail)
    all_goals
     have hb7:=bel hbr fJ;have rP:=HZ7.out;have oz:=HI7.out;cases z7
     ·have HN:=zC (show o=K.iC x.nd x.l x.ss x.r q c M i1 by
       rw [HST.out];cases o1 with
       | none=>rfl
       | some v=>cases rP)
      clear rP oz;go_wp2_with fail;go_roundw
      case rel=>(go_light;exact ⟨i1,rfl,hi6,HN.out,hb7⟩)
      case measure=>(go_light;simp [intOf];have:=HI1.out;omega)
     ·obtain ⟨v,hv⟩:∃ v,o1=some v:=by
       cases o1 with
       | none=>cases rP
       | some v=>exact ⟨v,rfl⟩
      have HN:=zC (show o=some v by rw [HST.out,hv];rfl);have GX:=oz v hv;clear rP oz hv;go_wp2_with fail;go_ret2
      exact ⟨⟨A7,n7,k7,true,rfl,by rw [HN.out];rfl,(λu hu=>by rw [HN.out] at hu;injection hu with hu;rw [<-hu];exact GX),HF7.out⟩,bel hb1 hb7⟩
   ·obtain ⟨d1,d2⟩:=zL (a:=i) (b:=x.m) (by omega);have HN:=zC (show o=none by rw [hoi.out,HM.out];exact K.agr c (by have:=aS.out;omega));have S0:=aC.out _ hbr;obtain ⟨p0,p1,p2,p3,-⟩:=S0;clear hoi;go_wp2_with fail;go_ret2
    exact ⟨⟨none,0,0,false,rfl,by rw [HN.out];rfl,(λv hv=>by rw [HN.out] at hv;cases hv),(λad e=>(by cases e))⟩,bel hb1 hbr⟩
end Go.Proofs.YtippdjmpkafifaaGreat
