import Derived.Test.YtippdjmpkafifaaGreatCR9
set_option maxRecDepth 100000
set_option maxHeartbeats 64000000
namespace Go.Proofs.YtippdjmpkafifaaGreat
open Go.RowKit
namespace A
def exts (m:Nat):Nat->List (List Nat)
 | 0=>[[]]
 | k + 1=>(List.range m).flatMap λs=>(exts m k).map (s :: ·)
def give (sh:List (List Int)) (s:Nat) (i:Int):List (List Int):=sh.set s ((sh[s]?).getD [] ++ [i])
def place:List (List Int)->Int->List Nat->List (List Int)
 | sh,_,[]=>sh
 | sh,i,s :: d=>place (give sh s i) (i + 1) d
def fine (B:Nat->List Int->Bool) (sh:List (List Int)) (d:List Nat):Bool:=d.all λs=>B s ((sh[s]?).getD [])
def assign (B:Nat->List Int->Bool) (m:Nat):Nat->Int->List (List Int)->Option (List (List Int))
 | 0,_,sh=>some sh
 | k + 1,i,sh=>go (assign B m k (i + 1)) i sh (List.range m)
where
 go (rec:List (List Int)->Option (List (List Int))) (i:Int) (sh:List (List Int)):List Nat->Option (List (List Int))
  | []=>none
  | s :: rest=>if B s ((sh[s]?).getD [] ++ [i])=true then (match rec (give sh s i) with | some x=>some x | none=>go rec i sh rest) else go rec i sh rest
def Qa (B:Nat->List Int->Bool):Prop:=∀ s v w,B s (v ++ w)=true->B s v=true
theorem xg (sh:List (List Int)) (s:Nat) (i:Int):(give sh s i).length=sh.length:=by simp [give]
theorem acp:∀ (d:List Nat) (sh:List (List Int)) (i:Int),(place sh i d).length=sh.length
 | [],_,_=>rfl
 | s :: d,sh,i=>by rw [place,acp d,xg]
theorem Gz {sh:List (List Int)} {s:Nat} {i:Int} (hs:s < sh.length) (t:Nat):((give sh s i)[t]?).getD [] = if t=s then (sh[s]?).getD [] ++ [i] else (sh[t]?).getD []:=by
 unfold give;rw [List.getElem?_set];by_cases h:s=t
 ·subst h;rw [if_pos rfl,if_pos hs,if_pos rfl];rfl
 ·rw [if_neg h,if_neg (λe=>h e.symm)]
theorem acs:∀ (d:List Nat) (sh:List (List Int)) (i:Int),(∀ s ∈ d,s < sh.length)->∀ t:Nat,∃ w:List Int,((place sh i d)[t]?).getD [] = (sh[t]?).getD [] ++ w
 | [],sh,i,_,t=>⟨[],by simp [place]⟩
 | s :: d,sh,i,h,t=>by
  obtain ⟨w,hw⟩:=acs d (give sh s i) (i + 1) (λx hx=>by rw [xg];exact h x (dN _ hx)) t;rw [place,hw,Gz (h s (dJ ..))];by_cases e:t=s
  ·rw [if_pos e,jb,e];exact ⟨_,rfl⟩
  ·rw [if_neg e];exact ⟨_,rfl⟩
theorem rV {m:Nat}:∀ {k:Nat} {d:List Nat},d ∈ exts m k ↔ d.length=k/\∀ s ∈ d,s < m
 | 0,d=>by
  rw [exts,dB];constructor
  ·rintro rfl;exact ⟨rfl,λs h=>by cases h⟩
  ·rintro ⟨h,-⟩;exact List.length_eq_zero_iff.1 h
 | k + 1,d=>by
  rw [exts,List.mem_flatMap];constructor
  ·rintro ⟨s,hs,h⟩;obtain ⟨e,he,rfl⟩:=fE.1 h;obtain ⟨h1,h2⟩:=rV.1 he;refine ⟨by rw [dQ,h1],λx hx=>?_⟩;rcases dw.1 hx with rfl | hx
   ·exact List.mem_range.1 hs
   ·exact h2 x hx
  ·rintro ⟨h1,h2⟩;cases d with
   | nil=>cases h1
   | cons s d =>
    refine ⟨s,List.mem_range.2 (h2 s (dJ ..)),fE.2 ⟨d,rV.2 ⟨?_,λx hx=>h2 x (dN _ hx)⟩,rfl⟩⟩;rw [dQ] at h1;omega
theorem agu {α:Type} (p:α->Bool) (a b:List α):(a ++ b).find? p=(a.find? p).or (b.find? p):=by simp
theorem find_congr {α:Type} {p q:α->Bool}:∀ (l:List α),(∀ x ∈ l,p x=q x)->l.find? p=l.find? q
 | [],_=>rfl
 | a :: l,h=>by
  rw [List.find?_cons,List.find?_cons,h a (dJ ..),find_congr l λx hx=>h x (dN _ hx)]
theorem XK {B:Nat->List Int->Bool} (hB:Qa B) {m:Nat}:∀ (k:Nat) (i:Int) (sh:List (List Int)),sh.length=m ->
  assign B m k i sh=((exts m k).find? λd=>fine B (place sh i d) d).map (place sh i)
 | 0,i,sh,_=>by simp [assign,exts,fine,place]
 | k + 1,i,sh,hm=>by
  have key:∀ L:List Nat,(∀ s ∈ L,s < m)->assign.go B (assign B m k (i + 1)) i sh L=((L.flatMap λs=>(exts m k).map (s :: ·)).find? λd=>fine B (place sh i d) d).map (place sh i):=by
   intro L;induction L with
   | nil=>intro _;rfl
   | cons s L ih =>
    intro hL;have hs:s < sh.length:=by rw [hm];exact hL s (dJ ..)
    have ih:=ih λx hx=>hL x (dN _ hx);rw [List.flatMap_cons,agu,List.find?_map];unfold assign.go;rw [ih];have hfin:∀ d ∈ exts m k,fine B (place sh i (s :: d)) (s :: d)=(B s ((sh[s]?).getD [] ++ [i]) && fine B (place (give sh s i) (i + 1) d) d):=λd hd=>by
     obtain ⟨-,h2⟩:=rV.1 hd;obtain ⟨w,hw⟩:=acs d (give sh s i) (i + 1) (λx hx=>by rw [xg,hm];exact h2 x hx) s;rw [Gz hs,if_pos rfl] at hw;unfold fine;rw [List.all_cons,place,hw];by_cases hsd:s ∈ d
     ·cases hall:d.all λs_1=>B s_1 (((place (give sh s i) (i + 1) d)[s_1]?).getD [])
      ·rw [Bool.and_false,Bool.and_false]
      ·have h1:=List.all_eq_true.1 hall s hsd;rw [hw] at h1;rw [h1,hB _ _ _ h1]
     ·have hnt:∀ (d:List Nat) (sh':List (List Int)) (j:Int),s ∉ d->(∀ x ∈ d,x < sh'.length)->((place sh' j d)[s]?).getD [] = (sh'[s]?).getD []:=by
       intro d;induction d with
       | nil=>intro _ _ _ _;rfl
       | cons x d ih =>
        intro sh' j hn hx;rw [place,ih _ _ (λh=>hn (dN _ h)) (λy hy=>by rw [xg];exact hx y (dN _ hy)),Gz (hx x (dJ ..)),if_neg (λe=>hn (by rw [e];exact dJ ..))]
      have:=hnt d (give sh s i) (i + 1) hsd (λx hx=>by rw [xg,hm];exact h2 x hx);rw [hw,Gz hs,if_pos rfl] at this;rw [this]
    cases hb:B s ((sh[s]?).getD [] ++ [i])
    ·rw [if_neg (by simp)];have:(exts m k).find? ((λd=>fine B (place sh i d) d) ∘ (s :: ·))=none:=by
      rw [List.find?_eq_none];intro d hd;have h:=hfin d hd;rw [hb,Bool.false_and] at h;show ¬ fine B (place sh i (s :: d)) (s :: d)=true;rw [h];exact Bool.false_ne_true
     rw [this];rfl
    ·rw [if_pos rfl,XK hB k (i + 1) (give sh s i) (by rw [xg,hm])];have:(exts m k).find? ((λd=>fine B (place sh i d) d) ∘ (s :: ·))=(exts m k).find? λd=>fine B (place (give sh s i) (i + 1) d) d:=by
      apply find_congr;intro d hd;have h:=hfin d hd;rw [hb,Bool.true_and] at h;exact h
     rw [this];cases (exts m k).find? λd=>fine B (place (give sh s i) (i + 1) d) d with
     | none=>rfl
     | some d=>rfl
  rw [assign];exact key _ λs hs=>List.mem_range.1 hs
end A
namespace A
def share:List Nat->Nat->Int->List Int
 | [],_,_=>[]
 | x :: d,s,i=>if x=s then i :: share d s (i + 1) else share d s (i + 1)
theorem I_:∀ (d:List Nat) (sh:List (List Int)) (i:Int),(∀ s ∈ d,s < sh.length)->∀ t:Nat,((place sh i d)[t]?).getD [] = (sh[t]?).getD [] ++ share d t i
 | [],sh,i,_,t=>by simp [place,share]
 | s :: d,sh,i,h,t=>by
  rw [place,I_ d (give sh s i) (i + 1) (λx hx=>by rw [xg];exact h x (dN _ hx)),Gz (h s (dJ ..)),share];by_cases e:t=s
  ·rw [if_pos e,if_pos e.symm,jb,e];rfl
  ·rw [if_neg e,if_neg (λe2=>e e2.symm)]
theorem VH:∀ {d:List Nat} {s:Nat} {i:Int},share d s i=[] ↔ s ∉ d
 | [],s,i=>by simp [share]
 | x :: d,s,i=>by
  rw [share];by_cases h:x=s
  ·rw [if_pos h];simp [h]
  ·rw [if_neg h,VH];simp only [dw,not_or];exact ⟨λh2=>⟨λe=>h e.symm,h2⟩,λh2=>h2.2⟩
theorem x8:∀ {d:List Nat} {s:Nat} {i x:Int},x ∈ share d s i->i<=x/\x < i + d.length
 | [],s,i,x,h=>by cases h
 | y :: d,s,i,x,h=>by
  rw [share] at h;rw [dQ];split at h
  ·rcases dw.1 h with rfl | h
   ·omega
   ·have:=x8 h;omega
  ·have:=x8 h;omega
theorem sD:∀ (d:List Nat) (s:Nat) (i:Int),(share d s i).Pairwise (· < ·)
 | [],s,i=>List.Pairwise.nil
 | y :: d,s,i=>by
  rw [share];split
  ·refine List.pairwise_cons.2 ⟨λx hx=>?_,sD d s (i + 1)⟩;have:=x8 hx;omega
  ·exact sD d s (i + 1)
def possible (B:Nat->List Int->Bool) (m:Nat) (d:List Nat):Bool:=(List.range m).all λs=>(share d s 0).isEmpty || B s (share d s 0)
def first (B:Nat->List Int->Bool) (m n:Nat):Option (List Nat):=(exts m n).find? (possible B m)
theorem agw {B:Nat->List Int->Bool} {m k:Nat} {d:List Nat} (h:d ∈ exts m k):fine B (place (List.replicate m []) 0 d) d=possible B m d:=by
 obtain ⟨-,h2⟩:=rV.1 h;have hp:∀ t:Nat,((place (List.replicate m []) 0 d)[t]?).getD [] = share d t 0:=λt=>by
  rw [I_ d _ 0 (λs hs=>by rw [List.length_replicate];exact h2 s hs)];have:((List.replicate m ([]:ag))[t]?).getD [] = []:=by
   by_cases ht:t < m
   ·rw [List.getElem?_replicate,if_pos ht];rfl
   ·rw [List.getElem?_replicate,if_neg ht];rfl
  rw [this,List.nil_append]
 unfold fine possible;rw [Bool.eq_iff_iff,List.all_eq_true,List.all_eq_true];constructor
 ·intro h3 s _;by_cases hs:s ∈ d
  ·have:=h3 s hs;rw [hp] at this;rw [this,Bool.or_true]
  ·rw [VH.2 hs];rfl
 ·intro h3 s hs;have:=h3 s (List.mem_range.2 (h2 s hs));rw [hp];rcases Bool.or_eq_true_iff.1 this with h4 | h4
  ·rw [List.isEmpty_iff,VH] at h4;exact absurd hs h4
  ·exact h4
theorem acr {m k:Nat} {d:List Nat} (h:d ∈ exts m k):place (List.replicate m []) 0 d=(List.range m).map λs=>share d s 0:=by
 obtain ⟨-,h2⟩:=rV.1 h;have hl:(place (List.replicate m []) 0 d).length=m:=by rw [acp,List.length_replicate]
 apply List.ext_getElem?;intro t;have h3:=I_ d (List.replicate m []) 0 (λs hs=>by rw [List.length_replicate];exact h2 s hs) t;by_cases ht:t < m
 ·rw [List.getElem?_replicate,if_pos ht,zF (by rw [hl];exact ht)] at h3;rw [zF (by rw [hl];exact ht),dG,List.getElem?_range ht];exact congrArg some h3
 ·rw [lK (by rw [hl];omega),lK (by rw [bu,List.length_range];omega)]
theorem ae8 {B:Nat->List Int->Bool} (hB:Qa B) (m n:Nat):assign B m n 0 (List.replicate m [])=(first B m n).map λd=>(List.range m).map λs=>share d s 0:=by
 rw [XK hB n 0 _ (List.length_replicate ..),first];rw [find_congr (exts m n) λd hd=>agw hd];cases h:(exts m n).find? (possible B m) with
 | none=>rfl
 | some d=>exact congrArg some (acr (List.mem_of_find?_eq_some h))
def Qb (B:Nat->List Int->Bool):Prop:=∀ s v w,v.Sublist w->B s w=true->B s v=true
theorem Qb.mono {B:Nat->List Int->Bool} (h:Qb B):Qa B:=λs v w=>h s v (v ++ w) (List.sublist_append_left v w)
theorem Jo:∀ {w v:ag},v.Pairwise (· < ·)->w.Pairwise (· < ·)->(∀ x ∈ v,x ∈ w)->v.Sublist w
 | [],v,_,_,h=>by
  cases v with
  | nil=>exact List.Sublist.refl _
  | cons x v=>cases h x (dJ ..)
 | y :: w,[],_,_,_=>List.nil_sublist _
 | y :: w,x :: v,hv,hw,h=>by
  obtain ⟨hv1,hv2⟩:=List.pairwise_cons.1 hv;obtain ⟨hw1,hw2⟩:=List.pairwise_cons.1 hw;rcases dw.1 (h x (dJ ..)) with rfl | hx
  ·refine List.Sublist.cons_cons _ (Jo hv2 hw2 λz hz=>?_);rcases dw.1 (h z (dN _ hz)) with rfl | hz2
   ·have:=hv1 _ hz;omega
   ·exact hz2
  ·refine List.Sublist.cons _ (Jo hv hw2 λz hz=>?_);rcases dw.1 (h z hz) with rfl | hz2
   ·have h1:=hw1 x hx;rcases dw.1 hz with rfl | hz3
    ·omega
    ·have:=hv1 _ hz3;omega
   ·exact hz2
def dM (below:Nat):Nat->Nat->List (List Int)
 | 0,_=>[[]]
 | n + 1,f=>(List.range' f (below - f)).flatMap λi=>(dM below n (i + 1)).map ((i:Int) :: ·)
theorem qL {below:Nat}:∀ {n f:Nat} {v:ag},v ∈ dM below n f ↔ v.length=n/\v.Pairwise (· < ·)/\∀ x ∈ v,(f:Int)<=x/\x < (below:Int)
 | 0,f,v=>by
  rw [dM,dB];constructor
  ·rintro rfl;exact ⟨rfl,List.Pairwise.nil,λx h=>by cases h⟩
  ·rintro ⟨h,-⟩;exact List.length_eq_zero_iff.1 h
 | n + 1,f,v=>by
  rw [dM,List.mem_flatMap];constructor
  ·rintro ⟨i,hi,h⟩;obtain ⟨u,hu,rfl⟩:=fE.1 h;obtain ⟨h1,h2,h3⟩:=qL.1 hu;rw [List.mem_range'_1] at hi;refine ⟨by rw [dQ,h1],List.pairwise_cons.2 ⟨λx hx=>?_,h2⟩,λx hx=>?_⟩
   ·have:=h3 x hx;omega
   ·rcases dw.1 hx with rfl | hx
    ·omega
    ·have:=h3 x hx;omega
  ·rintro ⟨h1,h2,h3⟩;cases v with
   | nil=>cases h1
   | cons x v =>
    obtain ⟨g1,g2⟩:=List.pairwise_cons.1 h2;have g3:=h3 x (dJ ..);refine ⟨x.toNat,by rw [List.mem_range'_1];omega,fE.2 ⟨v,qL.2 ⟨by rw [dQ] at h1;omega,g2,λy hy=>?_⟩,by rw [Int.toNat_of_nonneg (by omega)]⟩⟩;have:=g1 y hy;have:=h3 y (dN _ hy);omega
def part (a b:ag):Bool:=a.all λx=>b.any (· == x)
theorem U_ {a b:ag}:part a b=true ↔ ∀ x ∈ a,x ∈ b:=by
 unfold part;rw [List.all_eq_true];refine ⟨λh x hx=>?_,λh x hx=>?_⟩
 ·obtain ⟨y,hy,e⟩:=List.any_eq_true.1 (h x hx);rw [<-beq_iff_eq.1 e];exact hy
 ·exact List.any_eq_true.2 ⟨x,h x hx,beq_self_eq_true _⟩
def gV (ok:List Int->Bool):List (List Int)->List (List Int)->List (List Int)
 | own,[]=>own
 | own,v :: rest=>gV ok (if !(own.any λu=>part u v) && !ok v then own ++ [v] else own) rest
def Bf (n:Nat):List (List Int):=(List.range n).flatMap λk=>dM n (k + 1) 0
def own (ok:List Int->Bool) (n:Nat):List (List Int):=gV ok [] (Bf n)
theorem abD {n:Nat} {v:ag}:v ∈ Bf n ↔ v ≠ []/\v.Pairwise (· < ·)/\∀ x ∈ v,0<=x/\x < (n:Int):=by
 unfold Bf;rw [List.mem_flatMap];constructor
 ·rintro ⟨k,hk,h⟩;obtain ⟨h1,h2,h3⟩:=qL.1 h;exact ⟨λe=>(by rw [e] at h1;cases h1),h2,λx hx=>by have:=h3 x hx;omega⟩
 ·rintro ⟨h1,h2,h3⟩;have hlen:v.length<=n:=by
   have key:∀ (v:ag) (a:Nat),v.Pairwise (· < ·)->(∀ x ∈ v,(a:Int)<=x/\x < (n:Int))->a<=n->v.length<=n - a:=by
    intro v;induction v with
    | nil=>intro a _ _ _;exact aW _
    | cons x v ih =>
     intro a hp hx ha;obtain ⟨p1,p2⟩:=List.pairwise_cons.1 hp;have hx0:=hx x (dJ ..);have:=ih (x.toNat + 1) p2 (λy hy=>by have:=p1 y hy;have:=hx y (dN _ hy);omega) (by omega);rw [dQ];omega
   have:=key v 0 h2 (λx hx=>by have:=h3 x hx;omega) (aW _);omega
  have hpos:0 < v.length:=List.length_pos_iff.2 h1;exact ⟨v.length - 1,List.mem_range.2 (by omega),qL.2 ⟨by omega,h2,λx hx=>by have:=h3 x hx;omega⟩⟩
theorem ab3 {ok:List Int->Bool}:∀ (L own:List (List Int)) (v:ag),v ∈ gV ok own L->v ∈ own\/(v ∈ L/\ok v=false)
 | [],own,v,h=>.inl h
 | u :: L,own,v,h=>by
  rw [gV] at h;rcases ab3 L _ v h with h | ⟨h1,h2⟩
  ·split at h
   ·rename_i hc
    rcases dX.1 h with h | h
    ·exact .inl h
    ·rw [dB] at h;subst h;rw [dH,Bool.not_eq_true',Bool.not_eq_true'] at hc;exact .inr ⟨dJ ..,hc.2⟩
   ·exact .inl h
  ·exact .inr ⟨dN _ h1,h2⟩
theorem U7 {ok:List Int->Bool}:∀ (L own:List (List Int)) (v:ag),v ∈ own->v ∈ gV ok own L
 | [],own,v,h=>h
 | u :: L,own,v,h=>by
  rw [gV];refine U7 L _ v ?_;split
  ·exact List.mem_append_left _ h
  ·exact h
theorem ab1 {ok:List Int->Bool}:∀ (L own:List (List Int)) (v:ag),v ∈ L->ok v=false->∃ u ∈ gV ok own L,part u v=true
 | [],own,v,h,_=>by cases h
 | u :: L,own,v,h,hv=>by
  rw [gV];rcases dw.1 h with rfl | h
  ·cases hc:own.any λu=>part u v
   ·refine ⟨v,U7 L _ v ?_,U_.2 λx hx=>hx⟩;rw [if_pos (by rw [hv];rfl)];exact List.mem_append_right _ (List.mem_singleton_self v)
   ·obtain ⟨u,hu,e⟩:=List.any_eq_true.1 hc;refine ⟨u,U7 L _ u ?_,e⟩;rw [if_neg (by simp)];exact hu
  ·exact ab1 L _ v h hv
theorem ajF {ok:List Int->Bool} {n:Nat} {v:ag} (h:v ∈ own ok n):v ∈ Bf n/\ok v=false:=by
 rcases ab3 _ _ _ h with h | h
 ·cases h
 ·exact h
theorem ajB {ok:List Int->Bool} {n:Nat} {v:ag} (h:v ∈ Bf n) (hv:ok v=false):∃ u ∈ own ok n,part u v=true:=ab1 _ _ v h hv
theorem ab2 {ok:List Int->Bool}:∀ (L own:List (List Int)),(gV ok own L).length<=own.length + L.length
 | [],own=>by simp [gV]
 | u :: L,own=>by
  rw [gV,dQ];refine aN (ab2 L _) ?_;split
  ·rw [cZ,List.length_singleton];omega
  ·omega
theorem ajE {ok:List Int->Bool} {n:Nat} (hn:n<=4):(own ok n).length<=15:=by
 refine aN (ab2 _ _) ?_;have:∀ k:Fin 5,([]:List (List Int)).length + (Bf k.val).length<=15:=by decide +kernel
 exact this ⟨n,by omega⟩
def hit (bl:List (Nat × List Int)) (sh:List (List Int)):Bool:=bl.any λb=>part b.2 ((sh[b.1]?).getD [])
def blocked (bl:List (Nat × List Int)) (m:Nat):Nat->Int->List (List Int)->Bool
 | 0,_,sh=>hit bl sh
 | k + 1,i,sh=>hit bl sh || (List.range m).all λs=>blocked bl m k (i + 1) (give sh s i)
theorem ahx {bl:List (Nat × List Int)} {sh:List (List Int)} {i:Int} {d:List Nat} (hd:∀ s ∈ d,s < sh.length) (h:hit bl sh=true):hit bl (place sh i d)=true:=by
 obtain ⟨b,hb,e⟩:=List.any_eq_true.1 h;refine List.any_eq_true.2 ⟨b,hb,U_.2 λx hx=>?_⟩;rw [I_ d sh i hd];exact List.mem_append_left _ (U_.1 e x hx)
theorem KI {bl:List (Nat × List Int)} {m:Nat}:∀ (k:Nat) (i:Int) (sh:List (List Int)),sh.length=m->(blocked bl m k i sh=true ↔ ∀ d ∈ exts m k,hit bl (place sh i d)=true)
 | 0,i,sh,_=>by
  rw [blocked,exts];constructor
  ·intro h d hd;rw [dB.1 hd];exact h
  ·intro h;exact h [] (List.mem_singleton_self _)
 | k + 1,i,sh,hm=>by
  rw [blocked,Bool.or_eq_true];constructor
  ·rintro (h | h) d hd
   ·exact ahx (λs hs=>by rw [hm];exact (rV.1 hd).2 s hs) h
   ·rw [exts,List.mem_flatMap] at hd;obtain ⟨s,hs,hd⟩:=hd;obtain ⟨e,he,rfl⟩:=fE.1 hd;exact (KI k (i + 1) (give sh s i) (by rw [xg,hm])).1 (List.all_eq_true.1 h s hs) e he
  ·intro h;refine .inr (List.all_eq_true.2 λs hs=>(KI k (i + 1) (give sh s i) (by rw [xg,hm])).2 λe he=>?_);exact h (s :: e) (by rw [exts,List.mem_flatMap];exact ⟨s,hs,fE.2 ⟨e,he,rfl⟩⟩)
theorem ajA {B:Nat->List Int->Bool} {m n:Nat} (h:first B m n=none):blocked ((List.range m).flatMap λs=>(own (B s) n).map λv=>(s,v)) m n 0 (List.replicate m [])=true:=by
 refine (KI n 0 (List.replicate m []) (List.length_replicate ..)).2 λd hd=>?_;obtain ⟨d1,d2⟩:=rV.1 hd;have h1:=List.find?_eq_none.1 h d hd;unfold possible at h1;rw [List.all_eq_true] at h1;obtain ⟨s,hs⟩:=Classical.not_forall.1 h1;obtain ⟨hsm,hs⟩:=Classical.not_forall.1 hs;rw [Bool.or_eq_true,not_or,List.isEmpty_iff] at hs;obtain ⟨hs1,hs2⟩:=hs;have hs2:B s (share d s 0)=false:=by simpa using hs2
 have hmem:share d s 0 ∈ Bf n:=abD.2 ⟨hs1,sD _ _ _,λx hx=>by have:=x8 hx;omega⟩;obtain ⟨u,hu,hp⟩:=ajB hmem hs2;refine List.any_eq_true.2 ⟨(s,u),List.mem_flatMap.2 ⟨s,hsm,fE.2 ⟨u,hu,rfl⟩⟩,?_⟩;rw [I_ d _ 0 (λs hs=>by rw [List.length_replicate];exact d2 s hs),List.getElem?_replicate,if_pos (List.mem_range.1 hsm)];exact hp
end A
namespace K
theorem VJ:∀ {v w:ag},v.Sublist w->∃ m,part w m=v
 | _,_,.slnil=>⟨0,rfl⟩
 | _,_,.cons a h=>by
  obtain ⟨m,e⟩:=VJ h;refine ⟨2 * m,?_⟩;have h1:(2 * m).testBit 0=false:=by rw [Nat.testBit_zero];simp
  rw [part,if_neg (by rw [h1];simp),show 2 * m / 2=m by omega,e]
 | _,_,.cons_cons a h=>by
  obtain ⟨m,e⟩:=VJ h;refine ⟨2 * m + 1,?_⟩;have h1:(2 * m + 1).testBit 0=true:=by rw [Nat.testBit_zero];simp
  rw [part,if_pos h1,show (2 * m + 1) / 2=m by omega,e]
def kG (nd:Int) (s:S):Bool:=!(T.check s == 0) || decide (nd<=s.ax)
def jR (nd:Int) (q:Q):Bool:=!T.right q || decide (nd<=q.node)
def bK (nd:Int) (l:List Ro) (ss:List S) (r:List Q):Int :=
 if aZ nd l == 0 && (decide (ss.length<=4) && (!(ss.any (kG nd)) && !(r.any (jR nd)))) then (if 6 < r.length then 6 else 0) else 1
def eH (nd:Int) (l:List Ro) (ss:List S) (r:List Q) (s:Nat) (v:ag):Bool:=match ss[s]? with
 | none=>false
 | some x=>(jF nd l x r v).2 == 0
def vY (nd:Int) (l:List Ro) (ss:List S) (r:List Q) (d:List Nat):List (Nat × Tr) :=
 (List.range ss.length).filterMap λs=>if (A.share d s 0).isEmpty then none else match ss[s]? with
  | none=>none
  | some x=>(best nd l x r (A.share d s 0)).map λt=>(s,t)
def plan (nd:Int) (l:List Ro) (ss:List S) (r:List Q):List (Nat × Tr) × Int :=
 if bK nd l ss r=0 then (match A.first (eH nd l ss r) ss.length r.length with
  | none=>([],4)
  | some d=>(vY nd l ss r d,0)) else ([],bK nd l ss r)
def xZ (nd:Int) (l:List Ro) (ss:List S) (r:List Q):List (Nat × List Int):=(List.range ss.length).flatMap λs=>(A.own (eH nd l ss r s) r.length).map λv=>(s,v)
def tq (nd:Int) (l:List Ro) (ss:List S) (r:List Q) (b:Nat × List Int):Nat × List Int × List Lb:=(b.1,b.2,match ss[b.1]? with | none=>[] | some x=>bG nd l x r b.2)
def refute (nd:Int) (l:List Ro) (ss:List S) (r:List Q):List (Nat × List Int × List Lb) × Int :=
 if (plan nd l ss r).2=0 then ([],7) else if (plan nd l ss r).2=4 then ((xZ nd l ss r).map (tq nd l ss r),0) else ([],(plan nd l ss r).2)
def jf (nd:Int) (l:List Ro) (ss:List S) (r:List Q):Int->List Int->List (Int × Tr)->Int
 | _,served,[]=>if served.length < r.length then 4 else 0
 | last,served,t :: rest=>match (if t.1 < 0 then none else ss[t.1.toNat]?) with
  | none=>1
  | some x=>if t.1<=last then 5 else if t.2.stops.isEmpty || !(check nd l x r t.2) then 24 else if t.2.stops.any (λk=>served.any (· == k)) then 5 else jf nd l ss r t.1 (served ++ t.2.stops) rest
def checks (nd:Int) (l:List Ro) (ss:List S) (r:List Q) (ts:List (Int × Tr)):Int :=
 if bK nd l ss r=0 then jf nd l ss r (-1) [] ts else bK nd l ss r
def kS (nd:Int) (l:List Ro) (ss:List S) (r:List Q) (b:Int × List Int × List Lb):Bool:=match (if b.1 < 0 then none else ss[b.1.toNat]?) with
 | none=>false
 | some x=>blocks nd l x r b.2.1 b.2.2
def refutes (nd:Int) (l:List Ro) (ss:List S) (r:List Q) (bl:List (Int × List Int × List Lb)):Bool :=
 (bK nd l ss r == 0) && (decide (bl.length<=200) && (bl.all (kS nd l ss r) && A.blocked (bl.map λb=>(b.1.toNat,b.2.1)) ss.length r.length 0 (List.replicate ss.length [])))
section
variable {nd : Int} {l : List Ro} {ss : List S} {r : List Q}
theorem KE {s:S} {v:ag}:(jF nd l s r v).2=0 ↔ bF nd l s r v=true/\∃ t,best nd l s r v=some t:=by
 unfold jF;constructor
 ·intro h;split at h
  ·rename_i h1
   refine ⟨h1,?_⟩;split at h
   ·rename_i t ht;exact ⟨t,ht⟩
   ·cases h
  ·cases h
 ·rintro ⟨h1,t,h2⟩;rw [if_pos h1,h2]
theorem afi {s:S} {v w:ag} (h:v.Sublist w) (hw:(jF nd l s r w).2=0):(jF nd l s r v).2=0:=by
 obtain ⟨h1,t,h2⟩:=KE.1 hw;obtain ⟨m,rfl⟩:=VJ h;obtain ⟨u,h3,-⟩:=aiK h1 m h2;exact KE.2 ⟨abU m h1,u,h3⟩
theorem agj:A.Qb (eH nd l ss r):=λs v w h hw=>by
 unfold eH at hw ⊢;cases hs:ss[s]? with
 | none=>rw [hs] at hw;cases hw
 | some x =>
  rw [hs] at hw;exact beq_iff_eq.2 (afi h (beq_iff_eq.1 hw))
theorem kT (h:bK nd l ss r=0):aZ nd l=0/\ss.length<=4/\(∀ s ∈ ss,T.check s=0/\s.ax < nd)/\(∀ q ∈ r,T.right q=true/\q.node < nd)/\r.length<=6:=by
 unfold bK at h;split at h
 ·rename_i h1
  split at h
  ·cases h
  ·rename_i h2
   simp only [dH,beq_iff_eq,gu,Bool.not_eq_true',List.any_eq_false,kG,jR,Bool.or_eq_true,not_or,Bool.not_eq_false] at h1;obtain ⟨g1,g2,g3,g4⟩:=h1;refine ⟨g1,g2,λs hs=>?_,λq hq=>?_,by omega⟩
   ·have:=g3 s hs;simp at this;exact this
   ·have:=g4 q hq;simp at this;exact this
 ·cases h
theorem ajQ:bK nd l ss r=0\/bK nd l ss r=1\/bK nd l ss r=6:=by
 unfold bK;split
 ·split
  ·exact .inr (.inr rfl)
  ·exact .inl rfl
 ·exact .inr (.inl rfl)
theorem NH (h:bK nd l ss r=0) {s:S} (hs:s ∈ ss) {v:ag} (hv:v.Pairwise (· < ·)) (hm:∀ x ∈ v,0<=x/\x < (r.length:Int)):bF nd l s r v=true:=by
 obtain ⟨h1,h2,h3,h4,h5⟩:=kT h;have hlen:v.length<=6:=by
  have hn:v.Nodup:=hv.imp λh=>Int.ne_of_lt h;have hsub:=A.Jo (w:=(List.range r.length).map λ(i:Nat)=>(i:Int)) hv (by
   rw [List.pairwise_map];exact List.pairwise_lt_range.imp λh=>by omega) (λx hx=>fE.2 ⟨x.toNat,by have:=hm x hx;rw [List.mem_range];omega,by have:=hm x hx;omega⟩)
  have:=hsub.length_le;rw [bu,List.length_range] at this;omega
 have Cj:∀ x ∈ v,req r x ∈ r:=λx hx=>by
  have hb:=hm x hx;have hlt:x.toNat < r.length:=by omega
  unfold req;rw [zF hlt];exact List.getElem_mem hlt
 simp only [bF,dH,beq_iff_eq,gu,Bool.not_eq_true',List.any_eq_false];refine ⟨h1,(h3 s hs).1,(h3 s hs).2,λq hq=>by simp [(h4 q hq).1],hlen,(Jk _ _).2 ⟨λk hk=>⟨(hm k hk).1,(hm k hk).2,by have:=(hm k hk).1;omega,(h4 _ (Cj k hk)).2⟩,hv⟩⟩
theorem Gy (h:bK nd l ss r=0) {k:Nat} {v:ag} (hv:v.Pairwise (· < ·)) (hm:∀ x ∈ v,0<=x/\x < (r.length:Int)):eH nd l ss r k v=true ↔ ∃ s t,ss[k]? = some s/\best nd l s r v=some t:=by
 unfold eH;cases hs:ss[k]? with
 | none=>simp
 | some x =>
  simp only [beq_iff_eq,KE];constructor
  ·rintro ⟨-,t,ht⟩;exact ⟨x,t,rfl,ht⟩
  ·rintro ⟨s,t,e,ht⟩;injection e with e;subst e;exact ⟨NH h (zD hs) hv hm,t,ht⟩
theorem first_some {B:Nat->List Int->Bool} {m n:Nat} {d:List Nat} (h:A.first B m n=some d):d.length=n/\(∀ s ∈ d,s < m)/\∀ s < m,A.share d s 0=[]\/B s (A.share d s 0)=true:=by
 obtain ⟨h1,h2⟩:=A.rV.1 (List.mem_of_find?_eq_some h);have h3:=List.find?_some h;refine ⟨h1,h2,λs hs=>?_⟩;rcases Bool.or_eq_true_iff.1 (List.all_eq_true.1 h3 s (List.mem_range.2 hs)) with h4 | h4
 ·exact .inl (List.isEmpty_iff.1 h4)
 ·exact .inr h4
theorem Vj (h:bK nd l ss r=0):((plan nd l ss r)=([],4)/\A.first (eH nd l ss r) ss.length r.length=none)\/∃ d,A.first (eH nd l ss r) ss.length r.length=some d/\plan nd l ss r=(vY nd l ss r d,0):=by
 unfold plan;rw [if_pos h];cases A.first (eH nd l ss r) ss.length r.length with
 | none=>exact .inl ⟨rfl,rfl⟩
 | some d=>exact .inr ⟨d,rfl,rfl⟩
theorem NR (h:bK nd l ss r ≠ 0):plan nd l ss r=([],bK nd l ss r):=by unfold plan;rw [if_neg h]
theorem aj2 (h:(plan nd l ss r).2=4):bK nd l ss r=0/\plan nd l ss r=([],4)/\A.first (eH nd l ss r) ss.length r.length=none:=by
 by_cases h1:bK nd l ss r=0
 ·rcases Vj h1 with ⟨h2,h3⟩ | ⟨d,-,h2⟩
  ·exact ⟨h1,h2,h3⟩
  ·rw [h2] at h;cases h
 ·rw [NR h1] at h;rcases ajQ (nd:=nd) (l:=l) (ss:=ss) (r:=r) with e | e | e <;> rw [e] at h <;> cases h
theorem acw (h:(plan nd l ss r).2=0):bK nd l ss r=0/\∃ d,A.first (eH nd l ss r) ss.length r.length=some d/\plan nd l ss r=(vY nd l ss r d,0):=by
 by_cases h1:bK nd l ss r=0
 ·rcases Vj h1 with ⟨h2,h3⟩ | ⟨d,g,h2⟩
  ·rw [h2] at h;cases h
  ·exact ⟨h1,d,g,h2⟩
 ·rw [NR h1] at h;exact absurd h h1
theorem aks (hm:ss.length<=4) (hn:r.length<=4) (h:(plan nd l ss r).2=4):(refute nd l ss r).2=0/\refutes nd l ss r ((refute nd l ss r).1.map λb=>((b.1:Int),b.2))=true:=by
 obtain ⟨h1,-,h3⟩:=aj2 h;have hr:refute nd l ss r=((xZ nd l ss r).map (tq nd l ss r),0):=by
  unfold refute;rw [if_neg (by rw [h];decide),if_pos h]
 rw [hr];refine ⟨rfl,?_⟩;unfold refutes;simp only [dH,beq_iff_eq,gu];refine ⟨h1,?_,?_,?_⟩
 ·rw [bu,bu];have key:∀ L:List Nat,(L.flatMap λs=>(A.own (eH nd l ss r s) r.length).map λv=>(s,v)).length<=15 * L.length:=by
   intro L;induction L with
   | nil=>exact aW _
   | cons x L ih =>
    rw [List.flatMap_cons,cZ,bu,dQ];have:=A.ajE (ok:=eH nd l ss r x) hn;omega
  have:=key (List.range ss.length);rw [List.length_range] at this;unfold xZ;omega
 ·rw [List.all_eq_true];intro b hb;obtain ⟨b1,hb1,rfl⟩:=fE.1 hb;obtain ⟨b2,hb2,rfl⟩:=fE.1 hb1;obtain ⟨k,hk,hb3⟩:=List.mem_flatMap.1 hb2;obtain ⟨v,hv,rfl⟩:=fE.1 hb3;obtain ⟨g1,g2⟩:=A.ajF hv;obtain ⟨g3,g4,g5⟩:=A.abD.1 g1;have hkl:k < ss.length:=List.mem_range.1 hk;have hs:ss[k]? = some ss[k]:=zF hkl;unfold kS tq;simp only [if_neg (show ¬ ((k:Int) < 0) by omega),kE,hs];have hok:=NH h1 (List.getElem_mem hkl) g4 g5;rw [aka hok g3];cases hb:best nd l ss[k] r v with
  | none=>rfl
  | some t =>
   have:=(Gy h1 g4 g5).2 ⟨_,t,hs,hb⟩;rw [g2] at this;cases this
 ·have:=A.ajA h3;rw [List.map_map,List.map_map];have he:(((λb:Int × List Int × List Lb=>(b.1.toNat,b.2.1)) ∘ (λb:Nat × List Int × List Lb=>((b.1:Int),b.2))) ∘ tq nd l ss r)=id:=by
   funext b;rfl
  rw [he,List.map_id];exact this
theorem QC {s:S} {t:Tr} (h:check nd l s r t=true):(run nd l s r t.stops).e=0/\(∀ x ∈ t.stops,0<=x/\x < (r.length:Int))/\t.stops.Nodup:=by
 unfold check at h;simp only [dH,beq_iff_eq,gu] at h;obtain ⟨h1,-⟩:=h;have h2:=T.zU.1 (T.mO (Ad (xY h1).1).2.1).2.1;exact ⟨h1,h2.1,h2.2⟩
theorem afO {s:S} {v:ag} (hok:bF nd l s r v=true) {t:Tr} (h:best nd l s r v=some t):check nd l s r t=true/\t.stops.Perm v:=by
 obtain ⟨h1,h2,-⟩:=XY hok h;refine ⟨?_,h1⟩;unfold check;simp [h2]
theorem IU:∀ {a b:ag},a.Nodup->(∀ x ∈ a,x ∈ b)->a.length<=b.length
 | [],_,_,_=>aW _
 | x :: a,b,hn,h=>by
  obtain ⟨h1,h2⟩:=List.nodup_cons.1 hn;have hx:=h x (dJ ..);have:=IU (b:=b.erase x) h2 λy hy=>(List.mem_erase_of_ne (λe=>h1 (by rw [<-e];exact hy))).2 (h y (dN _ hy));rw [List.length_erase_of_mem hx] at this;have:=List.length_pos_of_mem hx;rw [dQ];omega
theorem afL (h:bK nd l ss r=0) {d:List Nat} (hd:A.first (eH nd l ss r) ss.length r.length=some d) :
  ∀ (k j:Nat) (last:Int) (served:ag),j + k=ss.length->last < (j:Int)->(∀ x,x ∈ served ↔ ∃ s,s < j/\x ∈ A.share d s 0)->served.Nodup ->
   jf nd l ss r last served (((List.range' j k).filterMap λs=>if (A.share d s 0).isEmpty then none else match ss[s]? with
    | none=>none
    | some x=>(best nd l x r (A.share d s 0)).map λt=>(s,t)).map λt=>((t.1:Int),t.2))=0:=by
 obtain ⟨d1,d2,d3⟩:=first_some hd;have Yr:∀ (s s':Nat) (x:Int),x ∈ A.share d s 0->x ∈ A.share d s' 0->s=s':=by
  have key:∀ (d:List Nat) (i:Int) (s s':Nat) (x:Int),x ∈ A.share d s i->x ∈ A.share d s' i->s=s':=by
   intro d;induction d with
   | nil=>intro i s s' x h;cases h
   | cons y d ih =>
    intro i s s' x h h';rw [A.share] at h h';split at h
    ·rename_i e1
     split at h'
     ·rename_i e2;rw [<-e1,<-e2]
     ·rcases dw.1 h with rfl | h
      ·have:=A.x8 h';omega
      ·exact ih _ _ _ _ h h'
    ·split at h'
     ·rcases dw.1 h' with rfl | h'
      ·have:=A.x8 h;omega
      ·exact ih _ _ _ _ h h'
     ·exact ih _ _ _ _ h h'
  exact key d 0
 have all:∀ x:Int,0<=x->x < (r.length:Int)->∃ s,s < ss.length/\x ∈ A.share d s 0:=by
  have key:∀ (d:List Nat) (i x:Int),i<=x->x < i + d.length->∃ s ∈ d,x ∈ A.share d s i:=by
   intro d;induction d with
   | nil=>intro i x h1 h2;rw [List.length_nil] at h2;omega
   | cons y d ih =>
    intro i x h1 h2;rw [dQ] at h2;by_cases e:x=i
    ·exact ⟨y,dJ ..,by rw [A.share,if_pos rfl,e];exact dJ ..⟩
    ·obtain ⟨s,hs,hx⟩:=ih (i + 1) x (by omega) (by omega);refine ⟨s,dN _ hs,?_⟩;rw [A.share];split
     ·exact dN _ hx
     ·exact hx
  intro x h1 h2;obtain ⟨s,hs,hx⟩:=key d 0 x h1 (by omega);exact ⟨s,d2 s hs,hx⟩
 intro k;induction k with
 | zero =>
  intro j last served hj _ hmem hnd;rw [List.range'_zero];show (if served.length < r.length then (4:Int) else 0)=0;rw [if_neg];have hsub:=IU (a:=(List.range r.length).map λ(i:Nat)=>(i:Int)) (b:=served) (List.pairwise_map.2 (List.nodup_range.imp λh e=>h (by omega))) λx hx=>by
   obtain ⟨i,hi,rfl⟩:=fE.1 hx;rw [List.mem_range] at hi;obtain ⟨s,hs,hx⟩:=all i (by omega) (by omega);exact (hmem _).2 ⟨s,by omega,hx⟩
  rw [bu,List.length_range] at hsub;omega
 | succ k ih =>
  intro j last served hj hlast hmem hnd;rw [List.range'_succ,List.filterMap_cons];have hjm:j < ss.length:=by omega
  rcases d3 j hjm with he | hB
  ·rw [he];simp only [List.isEmpty_nil,if_true];refine ih (j + 1) last served (by omega) (by omega) (λx=>?_) hnd;rw [hmem];constructor
   ·rintro ⟨s,hs,hx⟩;exact ⟨s,by omega,hx⟩
   ·rintro ⟨s,hs,hx⟩;refine ⟨s,?_,hx⟩;rcases Nat.lt_succ_iff_lt_or_eq.1 hs with h1 | rfl
    ·exact h1
    ·rw [he] at hx;cases hx
  ·by_cases he:A.share d j 0=[]
   ·rw [he];simp only [List.isEmpty_nil,if_true];refine ih (j + 1) last served (by omega) (by omega) (λx=>?_) hnd;rw [hmem];constructor
    ·rintro ⟨s,hs,hx⟩;exact ⟨s,by omega,hx⟩
    ·rintro ⟨s,hs,hx⟩;refine ⟨s,?_,hx⟩;rcases Nat.lt_succ_iff_lt_or_eq.1 hs with h1 | rfl
     ·exact h1
     ·rw [he] at hx;cases hx
   ·have hbd:∀ x ∈ A.share d j 0,0<=x/\x < (r.length:Int):=λx hx=>by have:=A.x8 hx;omega
    obtain ⟨x,t,hs,ht⟩:=(Gy h (A.sD _ _ _) hbd).1 hB;have hok:=NH h (zD hs) (A.sD d j 0) hbd;obtain ⟨hck,hperm⟩:=afO hok ht;have hne:(A.share d j 0).isEmpty=false:=by
     cases hsh:A.share d j 0 with
     | nil=>exact absurd hsh he
     | cons a b=>rfl
    simp only [hne,hs,ht,Bool.false_eq_true,if_false,Option.map_some,List.map_cons];show jf nd l ss r last served (((j:Int),t) :: _)=0;unfold jf;simp only [if_neg (show ¬ ((j:Int) < 0) by omega),kE,hs,if_neg (show ¬ ((j:Int)<=last) by omega)];have hst:t.stops.isEmpty=false:=by
     cases hsh:t.stops with
     | nil=>rw [hsh] at hperm;exact absurd hperm.symm.eq_nil he
     | cons a b=>rfl
    rw [hst,hck,if_neg (by simp)];have hno:(t.stops.any λk=>served.any (· == k))=false:=by
     rw [List.any_eq_false];intro y hy h9;obtain ⟨z,hz,e⟩:=List.any_eq_true.1 h9;rw [beq_iff_eq.1 e] at hz;obtain ⟨s,hs1,hx⟩:=(hmem y).1 hz;have:=Yr s j y hx (hperm.mem_iff.1 hy);omega
    rw [hno,if_neg (by simp)];refine ih (j + 1) j (served ++ t.stops) (by omega) (by omega) (λy=>?_) ?_
    ·rw [dX,hmem,hperm.mem_iff];constructor
     ·rintro (⟨s,hs1,hx⟩ | hx)
      ·exact ⟨s,by omega,hx⟩
      ·exact ⟨j,by omega,hx⟩
     ·rintro ⟨s,hs1,hx⟩;rcases Nat.lt_succ_iff_lt_or_eq.1 hs1 with h1 | rfl
      ·exact .inl ⟨s,h1,hx⟩
      ·exact .inr hx
    ·rw [List.nodup_append];refine ⟨hnd,hperm.nodup_iff.2 ((A.sD d j 0).imp λh=>Int.ne_of_lt h),λa ha b hb e=>?_⟩;subst e;obtain ⟨s,hs1,hx⟩:=(hmem a).1 ha;have:=Yr s j a hx (hperm.mem_iff.1 hb);omega
theorem Vk (h:(plan nd l ss r).2=0):checks nd l ss r ((plan nd l ss r).1.map λt=>((t.1:Int),t.2))=0:=by
 obtain ⟨h1,d,h2,h3⟩:=acw h;rw [h3];unfold checks;rw [if_pos h1];have:=afL h1 h2 ss.length 0 (-1) [] (by omega) (by omega) (λx=>by simp) List.nodup_nil;rw [<-List.range_eq_range'] at this;exact this
end
end K
namespace K
section
variable {nd : Int} {l : List Ro} {ss : List S} {r : List Q}
structure Good (nd:Int) (l:List Ro) (ss:List S) (r:List Q) (t:Int × Tr):Prop where
 pos:0<=t.1
 sh:∃ x,ss[t.1.toNat]? = some x/\check nd l x r t.2=true
 ne:t.2.stops ≠ []
theorem Yc:∀ (ts:List (Int × Tr)) (last:Int) (served:ag),jf nd l ss r last served ts=0 ->
  (∀ t ∈ ts,last < t.1/\Good nd l ss r t)/\ts.Pairwise (λa b=>a.1 < b.1/\∀ x ∈ a.2.stops,x ∉ b.2.stops)/\(∀ t ∈ ts,∀ x ∈ t.2.stops,x ∉ served)/\r.length<=(served ++ ts.flatMap λt=>t.2.stops).length
 | [],last,served,h=>by
  refine ⟨λt h=>(by cases h),List.Pairwise.nil,λt h=>(by cases h),?_⟩;unfold jf at h;split at h
  ·cases h
  ·rw [List.flatMap_nil,List.append_nil];omega
 | t :: ts,last,served,h=>by
  unfold jf at h;by_cases hneg:t.1 < 0
  ·rw [if_pos hneg] at h;cases h
  ·rw [if_neg hneg] at h;cases hs:ss[t.1.toNat]? with
   | none=>rw [hs] at h;cases h
   | some x =>
    rw [hs] at h;dsimp only at h;split at h
    ·cases h
    ·rename_i h1
     split at h
     ·cases h
     ·rename_i h2
      split at h
      ·cases h
      ·rename_i h3
       rw [Bool.or_eq_true,not_or,List.isEmpty_iff] at h2;obtain ⟨i1,i2,i3,i4⟩:=Yc ts t.1 (served ++ t.2.stops) h;have hg:Good nd l ss r t:=⟨by omega,⟨x,hs,by simpa using h2.2⟩,h2.1⟩;refine ⟨λu hu=>?_,List.pairwise_cons.2 ⟨λu hu=>⟨(i1 u hu).1,λy hy hy2=>i3 u hu y hy2 (List.mem_append_right _ hy)⟩,i2⟩,λu hu y hy hy2=>?_,?_⟩
       ·rcases dw.1 hu with rfl | hu
        ·exact ⟨by omega,hg⟩
        ·exact ⟨by have:=(i1 u hu).1;omega,(i1 u hu).2⟩
       ·rcases dw.1 hu with rfl | hu
        ·refine h3 (List.any_eq_true.2 ⟨y,hy,List.any_eq_true.2 ⟨y,hy2,beq_self_eq_true _⟩⟩)
        ·exact i3 u hu y hy (List.mem_append_left _ hy2)
       ·rw [List.flatMap_cons,<-jb];exact i4
end
end K
def Q.bare (q:Q):Q:=⟨q.node,q.room,q.a_,q.service,q.aI,q.aP,none,0,0,q.l⟩
def S.bare (s:S):S:=⟨s.day,s.ax,s.start,s.end_,s.aU,none,0,0,s.l⟩
namespace T
theorem XF (r:List Q):((r.map Q.bare).any λq=>!right q)=r.any λq=>!right q:=by rw [List.any_map];rfl
theorem UN (s:S) (r:List Q) (l:ag):load s.bare (r.map Q.bare) l=load s r l:=by
 unfold load;rw [XF,bu];rfl
theorem aim (r:List Q) (j i:Int):vP (r.map Q.bare) j i=vP r j i:=by
 unfold vP;rw [dG];cases r[i.toNat]? <;> rfl
theorem ada (r:List Q) (j:Int):∀ l,room (r.map Q.bare) j l=room r j l
 | []=>rfl
 | i :: l=>by rw [room,room,aim,ada r j l]
theorem abv (r:List Q) (l:ag):loads (r.map Q.bare) l=loads r l:=by simp only [loads,ada]
theorem YR (s:S) (r:List Q) (l:ag):fits s.bare (r.map Q.bare) l=fits s r l:=by
 unfold fits;rw [UN,abv];rfl
theorem Jq (s:S) (r:List Q) (l:ag):weight s.bare (r.map Q.bare) l=weight s r l:=by
 unfold weight;rw [UN,abv];rfl
end T
namespace K
theorem vU (r:List Q) (i:Int):req (r.map Q.bare) i=(req r i).bare:=by
 unfold req;rw [dG];cases r[i.toNat]? <;> rfl
section
variable (nd : Int) (l : List Ro) (s : S) (r : List Q)
theorem adN:∀ (v:ag) (p:Int),l9 nd (r.map Q.bare) p v=l9 nd r p v
 | [],_=>rfl
 | k :: v,p=>by rw [l9,l9,adN v k,vU,bu];rfl
theorem U0 (v:ag):bF nd l s.bare (r.map Q.bare) v=bF nd l s r v:=by
 unfold bF;rw [T.XF,adN];rfl
theorem XR (q:Q) (all:ag) (arr:Int):begins s.bare (r.map Q.bare) q.bare all arr=begins s r q all arr:=by
 unfold begins;rw [T.YR];rfl
theorem ahN (v:ag) (st:St) (b:Option Tr):home nd l s.bare (r.map Q.bare) v st b=home nd l s r v st b:=by
 unfold home;rw [T.Jq];rfl
theorem ajm (v:ag) (st:St) (i:Nat) (k:Int):jW nd l s.bare (r.map Q.bare) v st i k=jW nd l s r v st i k:=by
 unfold jW;rw [T.Jq,vU,XR];rfl
theorem go_bare (rec:St->Option Tr->Option Tr) (v:ag) (st:St):∀ (rest:ag) (b:Option Tr) (i:Nat),dU.go rec nd l s.bare (r.map Q.bare) v st b i rest=dU.go rec nd l s r v st b i rest
 | [],_,_=>rfl
 | k :: rest,b,i=>by
  rw [dU.go,dU.go,ajm];cases jW nd l s r v st i k with
  | none=>exact go_bare rec v st rest b (i + 1)
  | some st'=>exact go_bare rec v st rest (rec st' b) (i + 1)
theorem adJ (v:ag):∀ (f:Nat) (st:St) (b:Option Tr),dU nd l s.bare (r.map Q.bare) v f st b=dU nd l s r v f st b
 | 0,_,_=>rfl
 | f + 1,st,b=>by
  rw [dU,dU,ahN,go_bare];have:dU nd l s.bare (r.map Q.bare) v f=dU nd l s r v f:=by funext st b;exact adJ v f st b
  rw [this]
theorem XW (v:ag):best nd l s.bare (r.map Q.bare) v=best nd l s r v:=adJ nd l s r v _ _ _
theorem aff (v:ag):jF nd l s.bare (r.map Q.bare) v=jF nd l s r v:=by
 unfold jF;rw [U0,XW]
theorem ais (v row:ag) (rest i:Nat) (q:Q):label nd l s.bare (r.map Q.bare) v row rest i q.bare=label nd l s r v row rest i q:=by
 unfold label labelOf arrives;have hn:nodes (r.map Q.bare) v=nodes r v:=by
  unfold nodes;refine List.map_congr_left λk _=>?_;rw [vU];rfl
 rw [hn,T.Jq,XR];rfl
theorem akX (v:ag) (t:List (List Int)) (m:Nat):rowOf nd l s.bare (r.map Q.bare) v t m=rowOf nd l s r v t m:=by
 unfold rowOf;refine List.map_congr_left λk _=>?_;rw [vU,ais]
theorem aea (v:ag):∀ M,table nd l s.bare (r.map Q.bare) v M=table nd l s r v M
 | 0=>rfl
 | M + 1=>by rw [table,table,aea v M,akX]
theorem aba (v:ag):bG nd l s.bare (r.map Q.bare) v=bG nd l s r v:=by
 unfold bG;rw [U0,aea]
theorem ajo (v:ag) (all:Nat):opensAt nd l s.bare (r.map Q.bare) v all=opensAt nd l s r v all:=by
 funext x
 unfold opensAt;rw [vU,T.Jq];rfl
theorem afF (v:ag) (b:List Lb):blocks nd l s.bare (r.map Q.bare) v b=blocks nd l s r v b:=by
 unfold blocks;rw [U0,aba,ajo]
theorem akF (o:ag):right nd l s.bare (r.map Q.bare) o=right nd l s r o:=by
 unfold right;rw [T.UN];congr 2;congr 1;refine List.all_congr rfl λi=>?_;rw [vU];rfl
theorem acC (v:ag) (a t node:Int):reach nd l s.bare (r.map Q.bare) v a t node=reach nd l s r v a t node:=by
 unfold reach;rw [T.Jq];rfl
theorem aiC (v:ag) (i a t:Int):aG nd l s.bare (r.map Q.bare) v i a t=aG nd l s r v i a t:=by
 unfold aG;rw [vU,T.YR,acC];rfl
theorem abg:∀ (o served:ag) (a t:Int),aB nd l s.bare (r.map Q.bare) served a t o=aB nd l s r served a t o
 | [],_,_,_=>rfl
 | i :: o,served,a,t=>by
  rw [aB,aB,aiC,vU];rw [show (req r i).bare.node=(req r i).node from rfl,show (req r i).bare.service=(req r i).service from rfl,abg o]
theorem ak8 (o:ag):run nd l s.bare (r.map Q.bare) o=run nd l s r o:=by
 unfold run;rw [akF,show s.bare.ax=s.ax from rfl,show s.bare.start=s.start from rfl,abg,acC]
theorem afN (t:Tr):check nd l s.bare (r.map Q.bare) t=check nd l s r t:=by
 unfold check;rw [ak8]
variable (ss : List S)
theorem Vd:bK nd l (ss.map S.bare) (r.map Q.bare)=bK nd l ss r:=by
 unfold bK;rw [bu,bu,List.any_map,List.any_map];rfl
theorem YF:eH nd l (ss.map S.bare) (r.map Q.bare)=eH nd l ss r:=by
 funext k v
 unfold eH;rw [dG];cases ss[k]? with
 | none=>rfl
 | some x=>show ((jF nd l x.bare (r.map Q.bare) v).2 == 0)=_;rw [aff]
theorem amd (d:List Nat):vY nd l (ss.map S.bare) (r.map Q.bare) d=vY nd l ss r d:=by
 unfold vY;rw [bu];congr 1;funext k
 rw [dG];cases ss[k]? with
 | none=>rfl
 | some x =>
  show (if _ then none else (best nd l x.bare (r.map Q.bare) _).map _)=_;rw [XW]
theorem Vh:plan nd l (ss.map S.bare) (r.map Q.bare)=plan nd l ss r:=by
 unfold plan;rw [Vd,YF,bu,bu];simp only [amd]
theorem acG:refute nd l (ss.map S.bare) (r.map Q.bare)=refute nd l ss r:=by
 unfold refute;rw [Vh];have h1:xZ nd l (ss.map S.bare) (r.map Q.bare)=xZ nd l ss r:=by
  unfold xZ;rw [YF,bu,bu]
 have h2:tq nd l (ss.map S.bare) (r.map Q.bare)=tq nd l ss r:=by
  funext b
  unfold tq;rw [dG];cases ss[b.1]? with
  | none=>rfl
  | some x=>show (b.1,b.2,bG nd l x.bare (r.map Q.bare) b.2)=_;rw [aba]
 rw [h1,h2]
theorem Yb:∀ (ts:List (Int × Tr)) (last:Int) (served:ag),jf nd l (ss.map S.bare) (r.map Q.bare) last served ts=jf nd l ss r last served ts
 | [],_,_=>by unfold jf;rw [bu]
 | t :: ts,last,served=>by
  unfold jf;rw [dG,Yb ts];by_cases hn:t.1 < 0
  ·simp only [if_pos hn]
  ·simp only [if_neg hn];cases ss[t.1.toNat]? with
   | none=>rfl
   | some x=>simp only [Option.map_some,afN]
theorem Yg (ts:List (Int × Tr)):checks nd l (ss.map S.bare) (r.map Q.bare) ts=checks nd l ss r ts:=by
 unfold checks;rw [Vd,Yb]
theorem ajl:kS nd l (ss.map S.bare) (r.map Q.bare)=kS nd l ss r:=by
 funext b
 unfold kS;rw [dG];by_cases hn:b.1 < 0
 ·simp only [if_pos hn]
 ·simp only [if_neg hn];cases ss[b.1.toNat]? with
  | none=>rfl
  | some x=>simp only [Option.map_some,afF]
theorem acL (bl:List (Int × List Int × List Lb)):refutes nd l (ss.map S.bare) (r.map Q.bare) bl=refutes nd l ss r bl:=by
 unfold refutes;rw [Vd,ajl,bu,bu]
end
end K
namespace K
section
variable {nd : Int} {l : List Ro} {s : S} {r : List Q} {o : ag}
theorem abm:∀ (o v:ag) (a t:Int),(aB nd l s r v a t o).e=0->(aB nd l s r v a t o).times.length=o.length
 | [],_,_,_,_=>rfl
 | i :: o,v,a,t,h=>by
  unfold aB at h ⊢;split
  ·rename_i h1
   rw [if_pos h1] at h;exact absurd h h1
  ·rename_i h1
   rw [if_neg h1] at h;rw [dQ,dQ];exact congrArg (· + 1) (abm o _ _ _ h)
theorem ak_ (h:(run nd l s r o).e=0):(run nd l s r o).bC.times.length=o.length:=by
 obtain ⟨-,h2,-,h4⟩:=xY h;rw [h4];exact abm o [] _ _ h2
theorem abM (h:(run nd l s r o).e=0) {k:Nat} (hk:k < o.length) {a t:Int} (hu:oN nd l s r o (run nd l s r o).bC.times k a t):∃ i y,o[k]? = some i/\(run nd l s r o).bC.times[k]? = some y/\Next nd l s r o (run nd l s r o).bC.times k a t i y:=by
 have hl:=ak_ h;exact ⟨_,_,zF hk,zF (by omega),next h hu (zF hk) (zF (by omega))⟩
end
end K
end Go.Proofs.YtippdjmpkafifaaGreat
