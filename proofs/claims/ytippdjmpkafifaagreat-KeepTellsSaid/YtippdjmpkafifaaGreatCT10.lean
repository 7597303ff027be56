import Derived.Test.YtippdjmpkafifaaGreatCT9
set_option maxRecDepth 100000
set_option maxHeartbeats 64000000
namespace Go.Proofs.YtippdjmpkafifaaGreat
open Go.RowKit
namespace A
def exts (m:Nat):Nat->List (List Nat)
 | 0=>[[]]
 | k + 1=>(List.range m).flatMap λs=>(exts m k).map (s :: ·)
def give (sh:List (List Int)) (s:Nat) (i:Int):List (List Int):=sh.set s ((sh[s]?).getD [] ++ [i])
def place:List (List Int)->Int->List Nat->List (List Int)
 | sh,_,[]=>sh
 | sh,i,s :: d=>place (give sh s i) (i + 1) d
def fine (B:Nat->List Int->Bool) (sh:List (List Int)) (d:List Nat):Bool:=d.all λs=>B s ((sh[s]?).getD [])
def assign (B:Nat->List Int->Bool) (m:Nat):Nat->Int->List (List Int)->Option (List (List Int))
 | 0,_,sh=>some sh
 | k + 1,i,sh=>go (assign B m k (i + 1)) i sh (List.range m)
where
 go (rec:List (List Int)->Option (List (List Int))) (i:Int) (sh:List (List Int)):List Nat->Option (List (List Int))
  | []=>none
  | s :: rest=>if B s ((sh[s]?).getD [] ++ [i])=true then (match rec (give sh s i) with | some x=>some x | none=>go rec i sh rest) else go rec i sh rest
def MO (B:Nat->List Int->Bool):Prop:=∀ s v w,B s (v ++ w)=true->B s v=true
theorem uh (sh:List (List Int)) (s:Nat) (i:Int):(give sh s i).length=sh.length:=by simp [give]
theorem aas:∀ (d:List Nat) (sh:List (List Int)) (i:Int),(place sh i d).length=sh.length
 | [],_,_=>rfl
 | s :: d,sh,i=>by rw [place,aas d,uh]
theorem DJ {sh:List (List Int)} {s:Nat} {i:Int} (hs:s < sh.length) (t:Nat):((give sh s i)[t]?).getD [] = if t=s then (sh[s]?).getD [] ++ [i] else (sh[t]?).getD []:=by
 unfold give;rw [List.getElem?_set];by_cases h:s=t
 ·subst h;rw [if_pos rfl,if_pos hs,if_pos rfl];rfl
 ·rw [if_neg h,if_neg (λe=>h e.symm)]
theorem aau:∀ (d:List Nat) (sh:List (List Int)) (i:Int),(∀ s ∈ d,s < sh.length)->∀ t:Nat,∃ w:List Int,((place sh i d)[t]?).getD [] = (sh[t]?).getD [] ++ w
 | [],sh,i,_,t=>⟨[],by simp [place]⟩
 | s :: d,sh,i,h,t=>by
  obtain ⟨w,hw⟩:=aau d (give sh s i) (i + 1) (λx hx=>by rw [uh];exact h x (List.mem_cons_of_mem _ hx)) t;rw [place,hw,DJ (h s (List.mem_cons_self ..))];by_cases e:t=s
  ·rw [if_pos e,List.append_assoc,e];exact ⟨_,rfl⟩
  ·rw [if_neg e];exact ⟨_,rfl⟩
theorem o5 {m:Nat}:∀ {k:Nat} {d:List Nat},d ∈ exts m k ↔ d.length=k/\∀ s ∈ d,s < m
 | 0,d=>by
  rw [exts,List.mem_singleton];constructor
  ·rintro rfl;exact ⟨rfl,λs h=>by cases h⟩
  ·rintro ⟨h,-⟩;exact List.length_eq_zero_iff.1 h
 | k + 1,d=>by
  rw [exts,List.mem_flatMap];constructor
  ·rintro ⟨s,hs,h⟩;obtain ⟨e,he,rfl⟩:=List.mem_map.1 h;obtain ⟨h1,h2⟩:=o5.1 he;refine ⟨by rw [List.length_cons,h1],λx hx=>?_⟩;rcases List.mem_cons.1 hx with rfl | hx
   ·exact List.mem_range.1 hs
   ·exact h2 x hx
  ·rintro ⟨h1,h2⟩;cases d with
   | nil=>cases h1
   | cons s d =>
    refine ⟨s,List.mem_range.2 (h2 s (List.mem_cons_self ..)),List.mem_map.2 ⟨d,o5.2 ⟨?_,λx hx=>h2 x (List.mem_cons_of_mem _ hx)⟩,rfl⟩⟩;rw [List.length_cons] at h1;omega
theorem ael {α:Type} (p:α->Bool) (a b:List α):(a ++ b).find? p=(a.find? p).or (b.find? p):=by simp
theorem find_congr {α:Type} {p q:α->Bool}:∀ (l:List α),(∀ x ∈ l,p x=q x)->l.find? p=l.find? q
 | [],_=>rfl
 | a :: l,h=>by
  rw [List.find?_cons,List.find?_cons,h a (List.mem_cons_self ..),find_congr l λx hx=>h x (List.mem_cons_of_mem _ hx)]
theorem UI {B:Nat->List Int->Bool} (hB:MO B) {m:Nat}:∀ (k:Nat) (i:Int) (sh:List (List Int)),sh.length=m ->
  assign B m k i sh=((exts m k).find? λd=>fine B (place sh i d) d).map (place sh i)
 | 0,i,sh,_=>by simp [assign,exts,fine,place]
 | k + 1,i,sh,hm=>by
  have key:∀ L:List Nat,(∀ s ∈ L,s < m)->assign.go B (assign B m k (i + 1)) i sh L=((L.flatMap λs=>(exts m k).map (s :: ·)).find? λd=>fine B (place sh i d) d).map (place sh i):=by
   intro L;induction L with
   | nil=>intro _;rfl
   | cons s L ih =>
    intro hL;have hs:s < sh.length:=by rw [hm];exact hL s (List.mem_cons_self ..)
    have ih:=ih λx hx=>hL x (List.mem_cons_of_mem _ hx);rw [List.flatMap_cons,ael,List.find?_map];unfold assign.go;rw [ih];have hfin:∀ d ∈ exts m k,fine B (place sh i (s :: d)) (s :: d)=(B s ((sh[s]?).getD [] ++ [i]) && fine B (place (give sh s i) (i + 1) d) d):=λd hd=>by
     obtain ⟨-,h2⟩:=o5.1 hd;obtain ⟨w,hw⟩:=aau d (give sh s i) (i + 1) (λx hx=>by rw [uh,hm];exact h2 x hx) s;rw [DJ hs,if_pos rfl] at hw;unfold fine;rw [List.all_cons,place,hw];by_cases hsd:s ∈ d
     ·cases hall:d.all λs_1=>B s_1 (((place (give sh s i) (i + 1) d)[s_1]?).getD [])
      ·rw [Bool.and_false,Bool.and_false]
      ·have h1:=List.all_eq_true.1 hall s hsd;rw [hw] at h1;rw [h1,hB _ _ _ h1]
     ·have hnt:∀ (d:List Nat) (sh':List (List Int)) (j:Int),s ∉ d->(∀ x ∈ d,x < sh'.length)->((place sh' j d)[s]?).getD [] = (sh'[s]?).getD []:=by
       intro d;induction d with
       | nil=>intro _ _ _ _;rfl
       | cons x d ih =>
        intro sh' j hn hx;rw [place,ih _ _ (λh=>hn (List.mem_cons_of_mem _ h)) (λy hy=>by rw [uh];exact hx y (List.mem_cons_of_mem _ hy)),DJ (hx x (List.mem_cons_self ..)),if_neg (λe=>hn (by rw [e];exact List.mem_cons_self ..))]
      have:=hnt d (give sh s i) (i + 1) hsd (λx hx=>by rw [uh,hm];exact h2 x hx);rw [hw,DJ hs,if_pos rfl] at this;rw [this]
    cases hb:B s ((sh[s]?).getD [] ++ [i])
    ·rw [if_neg (by simp)];have:(exts m k).find? ((λd=>fine B (place sh i d) d) ∘ (s :: ·))=none:=by
      rw [List.find?_eq_none];intro d hd;have h:=hfin d hd;rw [hb,Bool.false_and] at h;show ¬ fine B (place sh i (s :: d)) (s :: d)=true;rw [h];exact Bool.false_ne_true
     rw [this];rfl
    ·rw [if_pos rfl,UI hB k (i + 1) (give sh s i) (by rw [uh,hm])];have:(exts m k).find? ((λd=>fine B (place sh i d) d) ∘ (s :: ·))=(exts m k).find? λd=>fine B (place (give sh s i) (i + 1) d) d:=by
      apply find_congr;intro d hd;have h:=hfin d hd;rw [hb,Bool.true_and] at h;exact h
     rw [this];cases (exts m k).find? λd=>fine B (place (give sh s i) (i + 1) d) d with
     | none=>rfl
     | some d=>rfl
  rw [assign];exact key _ λs hs=>List.mem_range.1 hs
end A
namespace A
def share:List Nat->Nat->Int->List Int
 | [],_,_=>[]
 | x :: d,s,i=>if x=s then i :: share d s (i + 1) else share d s (i + 1)
theorem FC:∀ (d:List Nat) (sh:List (List Int)) (i:Int),(∀ s ∈ d,s < sh.length)->∀ t:Nat,((place sh i d)[t]?).getD [] = (sh[t]?).getD [] ++ share d t i
 | [],sh,i,_,t=>by simp [place,share]
 | s :: d,sh,i,h,t=>by
  rw [place,FC d (give sh s i) (i + 1) (λx hx=>by rw [uh];exact h x (List.mem_cons_of_mem _ hx)),DJ (h s (List.mem_cons_self ..)),share];by_cases e:t=s
  ·rw [if_pos e,if_pos e.symm,List.append_assoc,e];rfl
  ·rw [if_neg e,if_neg (λe2=>e e2.symm)]
theorem RF:∀ {d:List Nat} {s:Nat} {i:Int},share d s i=[] ↔ s ∉ d
 | [],s,i=>by simp [share]
 | x :: d,s,i=>by
  rw [share];by_cases h:x=s
  ·rw [if_pos h];simp [h]
  ·rw [if_neg h,RF];simp only [List.mem_cons,not_or];exact ⟨λh2=>⟨λe=>h e.symm,h2⟩,λh2=>h2.2⟩
theorem vg:∀ {d:List Nat} {s:Nat} {i x:Int},x ∈ share d s i->i<=x/\x < i + d.length
 | [],s,i,x,h=>by cases h
 | y :: d,s,i,x,h=>by
  rw [share] at h;rw [List.length_cons];split at h
  ·rcases List.mem_cons.1 h with rfl | h
   ·omega
   ·have:=vg h;omega
  ·have:=vg h;omega
theorem o_:∀ (d:List Nat) (s:Nat) (i:Int),(share d s i).Pairwise (· < ·)
 | [],s,i=>List.Pairwise.nil
 | y :: d,s,i=>by
  rw [share];split
  ·refine List.pairwise_cons.2 ⟨λx hx=>?_,o_ d s (i + 1)⟩;have:=vg hx;omega
  ·exact o_ d s (i + 1)
def possible (B:Nat->List Int->Bool) (m:Nat) (d:List Nat):Bool:=(List.range m).all λs=>(share d s 0).isEmpty || B s (share d s 0)
def first (B:Nat->List Int->Bool) (m n:Nat):Option (List Nat):=(exts m n).find? (possible B m)
theorem aem {B:Nat->List Int->Bool} {m k:Nat} {d:List Nat} (h:d ∈ exts m k):fine B (place (List.replicate m []) 0 d) d=possible B m d:=by
 obtain ⟨-,h2⟩:=o5.1 h;have hp:∀ t:Nat,((place (List.replicate m []) 0 d)[t]?).getD [] = share d t 0:=λt=>by
  rw [FC d _ 0 (λs hs=>by rw [List.length_replicate];exact h2 s hs)];have:((List.replicate m ([]:List Int))[t]?).getD [] = []:=by
   by_cases ht:t < m
   ·rw [List.getElem?_replicate,if_pos ht];rfl
   ·rw [List.getElem?_replicate,if_neg ht];rfl
  rw [this,List.nil_append]
 unfold fine possible;rw [Bool.eq_iff_iff,List.all_eq_true,List.all_eq_true];constructor
 ·intro h3 s _;by_cases hs:s ∈ d
  ·have:=h3 s hs;rw [hp] at this;rw [this,Bool.or_true]
  ·rw [RF.2 hs];rfl
 ·intro h3 s hs;have:=h3 s (List.mem_range.2 (h2 s hs));rw [hp];rcases Bool.or_eq_true_iff.1 this with h4 | h4
  ·rw [List.isEmpty_iff,RF] at h4;exact absurd hs h4
  ·exact h4
theorem aat {m k:Nat} {d:List Nat} (h:d ∈ exts m k):place (List.replicate m []) 0 d=(List.range m).map λs=>share d s 0:=by
 obtain ⟨-,h2⟩:=o5.1 h;have hl:(place (List.replicate m []) 0 d).length=m:=by rw [aas,List.length_replicate]
 apply List.ext_getElem?;intro t;have h3:=FC d (List.replicate m []) 0 (λs hs=>by rw [List.length_replicate];exact h2 s hs) t;by_cases ht:t < m
 ·rw [List.getElem?_replicate,if_pos ht,zF (by rw [hl];exact ht)] at h3;rw [zF (by rw [hl];exact ht),List.getElem?_map,List.getElem?_range ht];exact congrArg some h3
 ·rw [List.getElem?_eq_none (by rw [hl];omega),List.getElem?_eq_none (by rw [List.length_map,List.length_range];omega)]
theorem acT {B:Nat->List Int->Bool} (hB:MO B) (m n:Nat):assign B m n 0 (List.replicate m [])=(first B m n).map λd=>(List.range m).map λs=>share d s 0:=by
 rw [UI hB n 0 _ (List.length_replicate ..),first];rw [find_congr (exts m n) λd hd=>aem hd];cases h:(exts m n).find? (possible B m) with
 | none=>rfl
 | some d=>exact congrArg some (aat (List.mem_of_find?_eq_some h))
def MP (B:Nat->List Int->Bool):Prop:=∀ s v w,v.Sublist w->B s w=true->B s v=true
theorem MP.mono {B:Nat->List Int->Bool} (h:MP B):MO B:=λs v w=>h s v (v ++ w) (List.sublist_append_left v w)
theorem FZ:∀ {w v:List Int},v.Pairwise (· < ·)->w.Pairwise (· < ·)->(∀ x ∈ v,x ∈ w)->v.Sublist w
 | [],v,_,_,h=>by
  cases v with
  | nil=>exact List.Sublist.refl _
  | cons x v=>cases h x (List.mem_cons_self ..)
 | y :: w,[],_,_,_=>List.nil_sublist _
 | y :: w,x :: v,hv,hw,h=>by
  obtain ⟨hv1,hv2⟩:=List.pairwise_cons.1 hv;obtain ⟨hw1,hw2⟩:=List.pairwise_cons.1 hw;rcases List.mem_cons.1 (h x (List.mem_cons_self ..)) with rfl | hx
  ·refine List.Sublist.cons_cons _ (FZ hv2 hw2 λz hz=>?_);rcases List.mem_cons.1 (h z (List.mem_cons_of_mem _ hz)) with rfl | hz2
   ·have:=hv1 _ hz;omega
   ·exact hz2
  ·refine List.Sublist.cons _ (FZ hv hw2 λz hz=>?_);rcases List.mem_cons.1 (h z hz) with rfl | hz2
   ·have h1:=hw1 x hx;rcases List.mem_cons.1 hz with rfl | hz3
    ·omega
    ·have:=hv1 _ hz3;omega
   ·exact hz2
def fK (below:Nat):Nat->Nat->List (List Int)
 | 0,_=>[[]]
 | n + 1,f=>(List.range' f (below - f)).flatMap λi=>(fK below n (i + 1)).map ((i:Int) :: ·)
theorem xm {below:Nat}:∀ {n f:Nat} {v:List Int},v ∈ fK below n f ↔ v.length=n/\v.Pairwise (· < ·)/\∀ x ∈ v,(f:Int)<=x/\x < (below:Int)
 | 0,f,v=>by
  rw [fK,List.mem_singleton];constructor
  ·rintro rfl;exact ⟨rfl,List.Pairwise.nil,λx h=>by cases h⟩
  ·rintro ⟨h,-⟩;exact List.length_eq_zero_iff.1 h
 | n + 1,f,v=>by
  rw [fK,List.mem_flatMap];constructor
  ·rintro ⟨i,hi,h⟩;obtain ⟨u,hu,rfl⟩:=List.mem_map.1 h;obtain ⟨h1,h2,h3⟩:=xm.1 hu;rw [List.mem_range'_1] at hi;refine ⟨by rw [List.length_cons,h1],List.pairwise_cons.2 ⟨λx hx=>?_,h2⟩,λx hx=>?_⟩
   ·have:=h3 x hx;omega
   ·rcases List.mem_cons.1 hx with rfl | hx
    ·omega
    ·have:=h3 x hx;omega
  ·rintro ⟨h1,h2,h3⟩;cases v with
   | nil=>cases h1
   | cons x v =>
    obtain ⟨g1,g2⟩:=List.pairwise_cons.1 h2;have g3:=h3 x (List.mem_cons_self ..);refine ⟨x.toNat,by rw [List.mem_range'_1];omega,List.mem_map.2 ⟨v,xm.2 ⟨by rw [List.length_cons] at h1;omega,g2,λy hy=>?_⟩,by rw [Int.toNat_of_nonneg (by omega)]⟩⟩;have:=g1 y hy;have:=h3 y (List.mem_cons_of_mem _ hy);omega
def part (a b:List Int):Bool:=a.all λx=>b.any (· == x)
theorem Q3 {a b:List Int}:part a b=true ↔ ∀ x ∈ a,x ∈ b:=by
 unfold part;rw [List.all_eq_true];refine ⟨λh x hx=>?_,λh x hx=>?_⟩
 ·obtain ⟨y,hy,e⟩:=List.any_eq_true.1 (h x hx);rw [<-beq_iff_eq.1 e];exact hy
 ·exact List.any_eq_true.2 ⟨x,h x hx,beq_self_eq_true _⟩
def dS (ok:List Int->Bool):List (List Int)->List (List Int)->List (List Int)
 | own,[]=>own
 | own,v :: rest=>dS ok (if !(own.any λu=>part u v) && !ok v then own ++ [v] else own) rest
def yf (n:Nat):List (List Int):=(List.range n).flatMap λk=>fK n (k + 1) 0
def own (ok:List Int->Bool) (n:Nat):List (List Int):=dS ok [] (yf n)
theorem ZF {n:Nat} {v:List Int}:v ∈ yf n ↔ v ≠ []/\v.Pairwise (· < ·)/\∀ x ∈ v,0<=x/\x < (n:Int):=by
 unfold yf;rw [List.mem_flatMap];constructor
 ·rintro ⟨k,hk,h⟩;obtain ⟨h1,h2,h3⟩:=xm.1 h;exact ⟨λe=>(by rw [e] at h1;cases h1),h2,λx hx=>by have:=h3 x hx;omega⟩
 ·rintro ⟨h1,h2,h3⟩;have hlen:v.length<=n:=by
   have key:∀ (v:List Int) (a:Nat),v.Pairwise (· < ·)->(∀ x ∈ v,(a:Int)<=x/\x < (n:Int))->a<=n->v.length<=n - a:=by
    intro v;induction v with
    | nil=>intro a _ _ _;exact Nat.zero_le _
    | cons x v ih =>
     intro a hp hx ha;obtain ⟨p1,p2⟩:=List.pairwise_cons.1 hp;have hx0:=hx x (List.mem_cons_self ..);have:=ih (x.toNat + 1) p2 (λy hy=>by have:=p1 y hy;have:=hx y (List.mem_cons_of_mem _ hy);omega) (by omega);rw [List.length_cons];omega
   have:=key v 0 h2 (λx hx=>by have:=h3 x hx;omega) (Nat.zero_le _);omega
  have hpos:0 < v.length:=List.length_pos_iff.2 h1;exact ⟨v.length - 1,List.mem_range.2 (by omega),xm.2 ⟨by omega,h2,λx hx=>by have:=h3 x hx;omega⟩⟩
theorem Z9 {ok:List Int->Bool}:∀ (L own:List (List Int)) (v:List Int),v ∈ dS ok own L->v ∈ own\/(v ∈ L/\ok v=false)
 | [],own,v,h=>.inl h
 | u :: L,own,v,h=>by
  rw [dS] at h;rcases Z9 L _ v h with h | ⟨h1,h2⟩
  ·split at h
   ·rename_i hc
    rcases List.mem_append.1 h with h | h
    ·exact .inl h
    ·rw [List.mem_singleton] at h;subst h;rw [Bool.and_eq_true,Bool.not_eq_true',Bool.not_eq_true'] at hc;exact .inr ⟨List.mem_cons_self ..,hc.2⟩
   ·exact .inl h
  ·exact .inr ⟨List.mem_cons_of_mem _ h1,h2⟩
theorem QX {ok:List Int->Bool}:∀ (L own:List (List Int)) (v:List Int),v ∈ own->v ∈ dS ok own L
 | [],own,v,h=>h
 | u :: L,own,v,h=>by
  rw [dS];refine QX L _ v ?_;split
  ·exact List.mem_append_left _ h
  ·exact h
theorem Z7 {ok:List Int->Bool}:∀ (L own:List (List Int)) (v:List Int),v ∈ L->ok v=false->∃ u ∈ dS ok own L,part u v=true
 | [],own,v,h,_=>by cases h
 | u :: L,own,v,h,hv=>by
  rw [dS];rcases List.mem_cons.1 h with rfl | h
  ·cases hc:own.any λu=>part u v
   ·refine ⟨v,QX L _ v ?_,Q3.2 λx hx=>hx⟩;rw [if_pos (by rw [hv];rfl)];exact List.mem_append_right _ (List.mem_singleton_self v)
   ·obtain ⟨u,hu,e⟩:=List.any_eq_true.1 hc;refine ⟨u,QX L _ u ?_,e⟩;rw [if_neg (by simp)];exact hu
  ·exact Z7 L _ v h hv
theorem ahC {ok:List Int->Bool} {n:Nat} {v:List Int} (h:v ∈ own ok n):v ∈ yf n/\ok v=false:=by
 rcases Z9 _ _ _ h with h | h
 ·cases h
 ·exact h
theorem ahy {ok:List Int->Bool} {n:Nat} {v:List Int} (h:v ∈ yf n) (hv:ok v=false):∃ u ∈ own ok n,part u v=true:=Z7 _ _ v h hv
theorem Z8 {ok:List Int->Bool}:∀ (L own:List (List Int)),(dS ok own L).length<=own.length + L.length
 | [],own=>by simp [dS]
 | u :: L,own=>by
  rw [dS,List.length_cons];refine Nat.le_trans (Z8 L _) ?_;split
  ·rw [List.length_append,List.length_singleton];omega
  ·omega
theorem ahB {ok:List Int->Bool} {n:Nat} (hn:n<=4):(own ok n).length<=15:=by
 refine Nat.le_trans (Z8 _ _) ?_;have:∀ k:Fin 5,([]:List (List Int)).length + (yf k.val).length<=15:=by decide +kernel
 exact this ⟨n,by omega⟩
def hit (bl:List (Nat × List Int)) (sh:List (List Int)):Bool:=bl.any λb=>part b.2 ((sh[b.1]?).getD [])
def blocked (bl:List (Nat × List Int)) (m:Nat):Nat->Int->List (List Int)->Bool
 | 0,_,sh=>hit bl sh
 | k + 1,i,sh=>hit bl sh || (List.range m).all λs=>blocked bl m k (i + 1) (give sh s i)
theorem afc {bl:List (Nat × List Int)} {sh:List (List Int)} {i:Int} {d:List Nat} (hd:∀ s ∈ d,s < sh.length) (h:hit bl sh=true):hit bl (place sh i d)=true:=by
 obtain ⟨b,hb,e⟩:=List.any_eq_true.1 h;refine List.any_eq_true.2 ⟨b,hb,Q3.2 λx hx=>?_⟩;rw [FC d sh i hd];exact List.mem_append_left _ (Q3.1 e x hx)
theorem H7 {bl:List (Nat × List Int)} {m:Nat}:∀ (k:Nat) (i:Int) (sh:List (List Int)),sh.length=m->(blocked bl m k i sh=true ↔ ∀ d ∈ exts m k,hit bl (place sh i d)=true)
 | 0,i,sh,_=>by
  rw [blocked,exts];constructor
  ·intro h d hd;rw [List.mem_singleton.1 hd];exact h
  ·intro h;exact h [] (List.mem_singleton_self _)
 | k + 1,i,sh,hm=>by
  rw [blocked,Bool.or_eq_true];constructor
  ·rintro (h | h) d hd
   ·exact afc (λs hs=>by rw [hm];exact (o5.1 hd).2 s hs) h
   ·rw [exts,List.mem_flatMap] at hd;obtain ⟨s,hs,hd⟩:=hd;obtain ⟨e,he,rfl⟩:=List.mem_map.1 hd;exact (H7 k (i + 1) (give sh s i) (by rw [uh,hm])).1 (List.all_eq_true.1 h s hs) e he
  ·intro h;refine .inr (List.all_eq_true.2 λs hs=>(H7 k (i + 1) (give sh s i) (by rw [uh,hm])).2 λe he=>?_);exact h (s :: e) (by rw [exts,List.mem_flatMap];exact ⟨s,hs,List.mem_map.2 ⟨e,he,rfl⟩⟩)
theorem ahx {B:Nat->List Int->Bool} {m n:Nat} (h:first B m n=none):blocked ((List.range m).flatMap λs=>(own (B s) n).map λv=>(s,v)) m n 0 (List.replicate m [])=true:=by
 refine (H7 n 0 (List.replicate m []) (List.length_replicate ..)).2 λd hd=>?_;obtain ⟨d1,d2⟩:=o5.1 hd;have h1:=List.find?_eq_none.1 h d hd;unfold possible at h1;rw [List.all_eq_true] at h1;obtain ⟨s,hs⟩:=Classical.not_forall.1 h1;obtain ⟨hsm,hs⟩:=Classical.not_forall.1 hs;rw [Bool.or_eq_true,not_or,List.isEmpty_iff] at hs;obtain ⟨hs1,hs2⟩:=hs;have hs2:B s (share d s 0)=false:=by simpa using hs2
 have hmem:share d s 0 ∈ yf n:=ZF.2 ⟨hs1,o_ _ _ _,λx hx=>by have:=vg hx;omega⟩;obtain ⟨u,hu,hp⟩:=ahy hmem hs2;refine List.any_eq_true.2 ⟨(s,u),List.mem_flatMap.2 ⟨s,hsm,List.mem_map.2 ⟨u,hu,rfl⟩⟩,?_⟩;rw [FC d _ 0 (λs hs=>by rw [List.length_replicate];exact d2 s hs),List.getElem?_replicate,if_pos (List.mem_range.1 hsm)];exact hp
end A
namespace K
theorem RH:∀ {v w:List Int},v.Sublist w->∃ m,part w m=v
 | _,_,.slnil=>⟨0,rfl⟩
 | _,_,.cons a h=>by
  obtain ⟨m,e⟩:=RH h;refine ⟨2 * m,?_⟩;have h1:(2 * m).testBit 0=false:=by rw [Nat.testBit_zero];simp
  rw [part,if_neg (by rw [h1];simp),show 2 * m / 2=m by omega,e]
 | _,_,.cons_cons a h=>by
  obtain ⟨m,e⟩:=RH h;refine ⟨2 * m + 1,?_⟩;have h1:(2 * m + 1).testBit 0=true:=by rw [Nat.testBit_zero];simp
  rw [part,if_pos h1,show (2 * m + 1) / 2=m by omega,e]
def iO (nd:Int) (s:S):Bool:=!(T.check s == 0) || decide (nd<=s.ag)
def iw (nd:Int) (q:Q):Bool:=!T.right q || decide (nd<=q.node)
def aH (nd:Int) (l:List Ro) (ss:List S) (r:List Q):Int :=
 if aG nd l == 0 && (decide (ss.length<=4) && (!(ss.any (iO nd)) && !(r.any (iw nd)))) then (if 6 < r.length then 6 else 0) else 1
def bM (nd:Int) (l:List Ro) (ss:List S) (r:List Q) (s:Nat) (v:List Int):Bool:=match ss[s]? with
 | none=>false
 | some x=>(gG nd l x r v).2 == 0
def nR (nd:Int) (l:List Ro) (ss:List S) (r:List Q) (d:List Nat):List (Nat × Tr) :=
 (List.range ss.length).filterMap λs=>if (A.share d s 0).isEmpty then none else match ss[s]? with
  | none=>none
  | some x=>(best nd l x r (A.share d s 0)).map λt=>(s,t)
def plan (nd:Int) (l:List Ro) (ss:List S) (r:List Q):List (Nat × Tr) × Int :=
 if aH nd l ss r=0 then (match A.first (bM nd l ss r) ss.length r.length with
  | none=>([],4)
  | some d=>(nR nd l ss r d,0)) else ([],aH nd l ss r)
def u_ (nd:Int) (l:List Ro) (ss:List S) (r:List Q):List (Nat × List Int):=(List.range ss.length).flatMap λs=>(A.own (bM nd l ss r s) r.length).map λv=>(s,v)
def pV (nd:Int) (l:List Ro) (ss:List S) (r:List Q) (b:Nat × List Int):Nat × List Int × List Lb:=(b.1,b.2,match ss[b.1]? with | none=>[] | some x=>aS nd l x r b.2)
def refute (nd:Int) (l:List Ro) (ss:List S) (r:List Q):List (Nat × List Int × List Lb) × Int :=
 if (plan nd l ss r).2=0 then ([],7) else if (plan nd l ss r).2=4 then ((u_ nd l ss r).map (pV nd l ss r),0) else ([],(plan nd l ss r).2)
def fJ (nd:Int) (l:List Ro) (ss:List S) (r:List Q):Int->List Int->List (Int × Tr)->Int
 | _,served,[]=>if served.length < r.length then 4 else 0
 | last,served,t :: rest=>match (if t.1 < 0 then none else ss[t.1.toNat]?) with
  | none=>1
  | some x=>if t.1<=last then 5 else if t.2.stops.isEmpty || !(check nd l x r t.2) then 24 else if t.2.stops.any (λk=>served.any (· == k)) then 5 else fJ nd l ss r t.1 (served ++ t.2.stops) rest
def checks (nd:Int) (l:List Ro) (ss:List S) (r:List Q) (ts:List (Int × Tr)):Int :=
 if aH nd l ss r=0 then fJ nd l ss r (-1) [] ts else aH nd l ss r
def iZ (nd:Int) (l:List Ro) (ss:List S) (r:List Q) (b:Int × List Int × List Lb):Bool:=match (if b.1 < 0 then none else ss[b.1.toNat]?) with
 | none=>false
 | some x=>blocks nd l x r b.2.1 b.2.2
def refutes (nd:Int) (l:List Ro) (ss:List S) (r:List Q) (bl:List (Int × List Int × List Lb)):Bool :=
 (aH nd l ss r == 0) && (decide (bl.length<=200) && (bl.all (iZ nd l ss r) && A.blocked (bl.map λb=>(b.1.toNat,b.2.1)) ss.length r.length 0 (List.replicate ss.length [])))
section
variable {nd : Int} {l : List Ro} {ss : List S} {r : List Q}
theorem Hu {s:S} {v:List Int}:(gG nd l s r v).2=0 ↔ aP nd l s r v=true/\∃ t,best nd l s r v=some t:=by
 unfold gG;constructor
 ·intro h;split at h
  ·rename_i h1
   refine ⟨h1,?_⟩;split at h
   ·rename_i t ht;exact ⟨t,ht⟩
   ·cases h
  ·cases h
 ·rintro ⟨h1,t,h2⟩;rw [if_pos h1,h2]
theorem ac3 {s:S} {v w:List Int} (h:v.Sublist w) (hw:(gG nd l s r w).2=0):(gG nd l s r v).2=0:=by
 obtain ⟨h1,t,h2⟩:=Hu.1 hw;obtain ⟨m,rfl⟩:=RH h;obtain ⟨u,h3,-⟩:=agE h1 m h2;exact Hu.2 ⟨ZW m h1,u,h3⟩
theorem aed:A.MP (bM nd l ss r):=λs v w h hw=>by
 unfold bM at hw ⊢;cases hs:ss[s]? with
 | none=>rw [hs] at hw;cases hw
 | some x =>
  rw [hs] at hw;exact beq_iff_eq.2 (ac3 h (beq_iff_eq.1 hw))
theorem gQ (h:aH nd l ss r=0):aG nd l=0/\ss.length<=4/\(∀ s ∈ ss,T.check s=0/\s.ag < nd)/\(∀ q ∈ r,T.right q=true/\q.node < nd)/\r.length<=6:=by
 unfold aH at h;split at h
 ·rename_i h1
  split at h
  ·cases h
  ·rename_i h2
   simp only [Bool.and_eq_true,beq_iff_eq,decide_eq_true_eq,Bool.not_eq_true',List.any_eq_false,iO,iw,Bool.or_eq_true,not_or,Bool.not_eq_false] at h1;obtain ⟨g1,g2,g3,g4⟩:=h1;refine ⟨g1,g2,λs hs=>?_,λq hq=>?_,by omega⟩
   ·have:=g3 s hs;simp at this;exact this
   ·have:=g4 q hq;simp at this;exact this
 ·cases h
theorem aam:aH nd l ss r=0\/aH nd l ss r=1\/aH nd l ss r=6:=by
 unfold aH;split
 ·split
  ·exact .inr (.inr rfl)
  ·exact .inl rfl
 ·exact .inr (.inl rfl)
theorem JQ (h:aH nd l ss r=0) {s:S} (hs:s ∈ ss) {v:List Int} (hv:v.Pairwise (· < ·)) (hm:∀ x ∈ v,0<=x/\x < (r.length:Int)):aP nd l s r v=true:=by
 obtain ⟨h1,h2,h3,h4,h5⟩:=gQ h;have hlen:v.length<=6:=by
  have hn:v.Nodup:=hv.imp λh=>Int.ne_of_lt h;have hsub:=A.FZ (w:=(List.range r.length).map λ(i:Nat)=>(i:Int)) hv (by
   rw [List.pairwise_map];exact List.pairwise_lt_range.imp λh=>by omega) (λx hx=>List.mem_map.2 ⟨x.toNat,by have:=hm x hx;rw [List.mem_range];omega,by have:=hm x hx;omega⟩)
  have:=hsub.length_le;rw [List.length_map,List.length_range] at this;omega
 have y9:∀ x ∈ v,req r x ∈ r:=λx hx=>by
  have hb:=hm x hx;have hlt:x.toNat < r.length:=by omega
  unfold req;rw [zF hlt];exact List.getElem_mem hlt
 simp only [aP,Bool.and_eq_true,beq_iff_eq,decide_eq_true_eq,Bool.not_eq_true',List.any_eq_false];refine ⟨h1,(h3 s hs).1,(h3 s hs).2,λq hq=>by simp [(h4 q hq).1],hlen,(FV _ _).2 ⟨λk hk=>⟨(hm k hk).1,(hm k hk).2,by have:=(hm k hk).1;omega,(h4 _ (y9 k hk)).2⟩,hv⟩⟩
theorem DI (h:aH nd l ss r=0) {k:Nat} {v:List Int} (hv:v.Pairwise (· < ·)) (hm:∀ x ∈ v,0<=x/\x < (r.length:Int)):bM nd l ss r k v=true ↔ ∃ s t,ss[k]? = some s/\best nd l s r v=some t:=by
 unfold bM;cases hs:ss[k]? with
 | none=>simp
 | some x =>
  simp only [beq_iff_eq,Hu];constructor
  ·rintro ⟨-,t,ht⟩;exact ⟨x,t,rfl,ht⟩
  ·rintro ⟨s,t,e,ht⟩;injection e with e;subst e;exact ⟨JQ h (zD hs) hv hm,t,ht⟩
theorem first_some {B:Nat->List Int->Bool} {m n:Nat} {d:List Nat} (h:A.first B m n=some d):d.length=n/\(∀ s ∈ d,s < m)/\∀ s < m,A.share d s 0=[]\/B s (A.share d s 0)=true:=by
 obtain ⟨h1,h2⟩:=A.o5.1 (List.mem_of_find?_eq_some h);have h3:=List.find?_some h;refine ⟨h1,h2,λs hs=>?_⟩;rcases Bool.or_eq_true_iff.1 (List.all_eq_true.1 h3 s (List.mem_range.2 hs)) with h4 | h4
 ·exact .inl (List.isEmpty_iff.1 h4)
 ·exact .inr h4
theorem Q9 (h:aH nd l ss r=0):((plan nd l ss r)=([],4)/\A.first (bM nd l ss r) ss.length r.length=none)\/∃ d,A.first (bM nd l ss r) ss.length r.length=some d/\plan nd l ss r=(nR nd l ss r d,0):=by
 unfold plan;rw [if_pos h];cases A.first (bM nd l ss r) ss.length r.length with
 | none=>exact .inl ⟨rfl,rfl⟩
 | some d=>exact .inr ⟨d,rfl,rfl⟩
theorem JY (h:aH nd l ss r ≠ 0):plan nd l ss r=([],aH nd l ss r):=by unfold plan;rw [if_neg h]
theorem ahX (h:(plan nd l ss r).2=4):aH nd l ss r=0/\plan nd l ss r=([],4)/\A.first (bM nd l ss r) ss.length r.length=none:=by
 by_cases h1:aH nd l ss r=0
 ·rcases Q9 h1 with ⟨h2,h3⟩ | ⟨d,-,h2⟩
  ·exact ⟨h1,h2,h3⟩
  ·rw [h2] at h;cases h
 ·rw [JY h1] at h;rcases aam (nd:=nd) (l:=l) (ss:=ss) (r:=r) with e | e | e <;> rw [e] at h <;> cases h
theorem ahW (h:(plan nd l ss r).2=0):aH nd l ss r=0/\∃ d,A.first (bM nd l ss r) ss.length r.length=some d/\plan nd l ss r=(nR nd l ss r d,0):=by
 by_cases h1:aH nd l ss r=0
 ·rcases Q9 h1 with ⟨h2,h3⟩ | ⟨d,g,h2⟩
  ·rw [h2] at h;cases h
  ·exact ⟨h1,d,g,h2⟩
 ·rw [JY h1] at h;exact absurd h h1
theorem aii (hm:ss.length<=4) (hn:r.length<=4) (h:(plan nd l ss r).2=4):(refute nd l ss r).2=0/\refutes nd l ss r ((refute nd l ss r).1.map λb=>((b.1:Int),b.2))=true:=by
 obtain ⟨h1,-,h3⟩:=ahX h;have hr:refute nd l ss r=((u_ nd l ss r).map (pV nd l ss r),0):=by
  unfold refute;rw [if_neg (by rw [h];decide),if_pos h]
 rw [hr];refine ⟨rfl,?_⟩;unfold refutes;simp only [Bool.and_eq_true,beq_iff_eq,decide_eq_true_eq];refine ⟨h1,?_,?_,?_⟩
 ·rw [List.length_map,List.length_map];have key:∀ L:List Nat,(L.flatMap λs=>(A.own (bM nd l ss r s) r.length).map λv=>(s,v)).length<=15 * L.length:=by
   intro L;induction L with
   | nil=>exact Nat.zero_le _
   | cons x L ih =>
    rw [List.flatMap_cons,List.length_append,List.length_map,List.length_cons];have:=A.ahB (ok:=bM nd l ss r x) hn;omega
  have:=key (List.range ss.length);rw [List.length_range] at this;unfold u_;omega
 ·rw [List.all_eq_true];intro b hb;obtain ⟨b1,hb1,rfl⟩:=List.mem_map.1 hb;obtain ⟨b2,hb2,rfl⟩:=List.mem_map.1 hb1;obtain ⟨k,hk,hb3⟩:=List.mem_flatMap.1 hb2;obtain ⟨v,hv,rfl⟩:=List.mem_map.1 hb3;obtain ⟨g1,g2⟩:=A.ahC hv;obtain ⟨g3,g4,g5⟩:=A.ZF.1 g1;have hkl:k < ss.length:=List.mem_range.1 hk;have hs:ss[k]? = some ss[k]:=zF hkl;unfold iZ pV;simp only [if_neg (show ¬ ((k:Int) < 0) by omega),Int.toNat_natCast,hs];have hok:=JQ h1 (List.getElem_mem hkl) g4 g5;rw [ah7 hok g3];cases hb:best nd l ss[k] r v with
  | none=>rfl
  | some t =>
   have:=(DI h1 g4 g5).2 ⟨_,t,hs,hb⟩;rw [g2] at this;cases this
 ·have:=A.ahx h3;rw [List.map_map,List.map_map];have he:(((λb:Int × List Int × List Lb=>(b.1.toNat,b.2.1)) ∘ (λb:Nat × List Int × List Lb=>((b.1:Int),b.2))) ∘ pV nd l ss r)=id:=by
   funext b;rfl
  rw [he,List.map_id];exact this
theorem Nz {s:S} {t:Tr} (h:check nd l s r t=true):(run nd l s r t.stops).e=0/\(∀ x ∈ t.stops,0<=x/\x < (r.length:Int))/\t.stops.Nodup:=by
 unfold check at h;simp only [Bool.and_eq_true,beq_iff_eq,decide_eq_true_eq] at h;obtain ⟨h1,-⟩:=h;have h2:=T.xe.1 (T.jS (xy (uZ h1).1).2.1).2.1;exact ⟨h1,h2.1,h2.2⟩
theorem adM {s:S} {v:List Int} (hok:aP nd l s r v=true) {t:Tr} (h:best nd l s r v=some t):check nd l s r t=true/\t.stops.Perm v:=by
 obtain ⟨h1,h2,-⟩:=U2 hok h;refine ⟨?_,h1⟩;unfold check;simp [h2]
theorem EY:∀ {a b:List Int},a.Nodup->(∀ x ∈ a,x ∈ b)->a.length<=b.length
 | [],_,_,_=>Nat.zero_le _
 | x :: a,b,hn,h=>by
  obtain ⟨h1,h2⟩:=List.nodup_cons.1 hn;have hx:=h x (List.mem_cons_self ..);have:=EY (b:=b.erase x) h2 λy hy=>(List.mem_erase_of_ne (λe=>h1 (by rw [<-e];exact hy))).2 (h y (List.mem_cons_of_mem _ hy));rw [List.length_erase_of_mem hx] at this;have:=List.length_pos_of_mem hx;rw [List.length_cons];omega
theorem adI (h:aH nd l ss r=0) {d:List Nat} (hd:A.first (bM nd l ss r) ss.length r.length=some d) :
  ∀ (k j:Nat) (last:Int) (served:List Int),j + k=ss.length->last < (j:Int)->(∀ x,x ∈ served ↔ ∃ s,s < j/\x ∈ A.share d s 0)->served.Nodup ->
   fJ nd l ss r last served (((List.range' j k).filterMap λs=>if (A.share d s 0).isEmpty then none else match ss[s]? with
    | none=>none
    | some x=>(best nd l x r (A.share d s 0)).map λt=>(s,t)).map λt=>((t.1:Int),t.2))=0:=by
 obtain ⟨d1,d2,d3⟩:=first_some hd;have VC:∀ (s s':Nat) (x:Int),x ∈ A.share d s 0->x ∈ A.share d s' 0->s=s':=by
  have key:∀ (d:List Nat) (i:Int) (s s':Nat) (x:Int),x ∈ A.share d s i->x ∈ A.share d s' i->s=s':=by
   intro d;induction d with
   | nil=>intro i s s' x h;cases h
   | cons y d ih =>
    intro i s s' x h h';rw [A.share] at h h';split at h
    ·rename_i e1
     split at h'
     ·rename_i e2;rw [<-e1,<-e2]
     ·rcases List.mem_cons.1 h with rfl | h
      ·have:=A.vg h';omega
      ·exact ih _ _ _ _ h h'
    ·split at h'
     ·rcases List.mem_cons.1 h' with rfl | h'
      ·have:=A.vg h;omega
      ·exact ih _ _ _ _ h h'
     ·exact ih _ _ _ _ h h'
  exact key d 0
 have all:∀ x:Int,0<=x->x < (r.length:Int)->∃ s,s < ss.length/\x ∈ A.share d s 0:=by
  have key:∀ (d:List Nat) (i x:Int),i<=x->x < i + d.length->∃ s ∈ d,x ∈ A.share d s i:=by
   intro d;induction d with
   | nil=>intro i x h1 h2;rw [List.length_nil] at h2;omega
   | cons y d ih =>
    intro i x h1 h2;rw [List.length_cons] at h2;by_cases e:x=i
    ·exact ⟨y,List.mem_cons_self ..,by rw [A.share,if_pos rfl,e];exact List.mem_cons_self ..⟩
    ·obtain ⟨s,hs,hx⟩:=ih (i + 1) x (by omega) (by omega);refine ⟨s,List.mem_cons_of_mem _ hs,?_⟩;rw [A.share];split
     ·exact List.mem_cons_of_mem _ hx
     ·exact hx
  intro x h1 h2;obtain ⟨s,hs,hx⟩:=key d 0 x h1 (by omega);exact ⟨s,d2 s hs,hx⟩
 intro k;induction k with
 | zero =>
  intro j last served hj _ hmem hnd;rw [List.range'_zero];show (if served.length < r.length then (4:Int) else 0)=0;rw [if_neg];have hsub:=EY (a:=(List.range r.length).map λ(i:Nat)=>(i:Int)) (b:=served) (List.pairwise_map.2 (List.nodup_range.imp λh e=>h (by omega))) λx hx=>by
   obtain ⟨i,hi,rfl⟩:=List.mem_map.1 hx;rw [List.mem_range] at hi;obtain ⟨s,hs,hx⟩:=all i (by omega) (by omega);exact (hmem _).2 ⟨s,by omega,hx⟩
  rw [List.length_map,List.length_range] at hsub;omega
 | succ k ih =>
  intro j last served hj hlast hmem hnd;rw [List.range'_succ,List.filterMap_cons];have hjm:j < ss.length:=by omega
  rcases d3 j hjm with he | hB
  ·rw [he];simp only [List.isEmpty_nil,if_true];refine ih (j + 1) last served (by omega) (by omega) (λx=>?_) hnd;rw [hmem];constructor
   ·rintro ⟨s,hs,hx⟩;exact ⟨s,by omega,hx⟩
   ·rintro ⟨s,hs,hx⟩;refine ⟨s,?_,hx⟩;rcases Nat.lt_succ_iff_lt_or_eq.1 hs with h1 | rfl
    ·exact h1
    ·rw [he] at hx;cases hx
  ·by_cases he:A.share d j 0=[]
   ·rw [he];simp only [List.isEmpty_nil,if_true];refine ih (j + 1) last served (by omega) (by omega) (λx=>?_) hnd;rw [hmem];constructor
    ·rintro ⟨s,hs,hx⟩;exact ⟨s,by omega,hx⟩
    ·rintro ⟨s,hs,hx⟩;refine ⟨s,?_,hx⟩;rcases Nat.lt_succ_iff_lt_or_eq.1 hs with h1 | rfl
     ·exact h1
     ·rw [he] at hx;cases hx
   ·have hbd:∀ x ∈ A.share d j 0,0<=x/\x < (r.length:Int):=λx hx=>by have:=A.vg hx;omega
    obtain ⟨x,t,hs,ht⟩:=(DI h (A.o_ _ _ _) hbd).1 hB;have hok:=JQ h (zD hs) (A.o_ d j 0) hbd;obtain ⟨hck,hperm⟩:=adM hok ht;have hne:(A.share d j 0).isEmpty=false:=by
     cases hsh:A.share d j 0 with
     | nil=>exact absurd hsh he
     | cons a b=>rfl
    simp only [hne,hs,ht,Bool.false_eq_true,if_false,Option.map_some,List.map_cons];show fJ nd l ss r last served (((j:Int),t) :: _)=0;unfold fJ;simp only [if_neg (show ¬ ((j:Int) < 0) by omega),Int.toNat_natCast,hs,if_neg (show ¬ ((j:Int)<=last) by omega)];have hst:t.stops.isEmpty=false:=by
     cases hsh:t.stops with
     | nil=>rw [hsh] at hperm;exact absurd hperm.symm.eq_nil he
     | cons a b=>rfl
    rw [hst,hck,if_neg (by simp)];have hno:(t.stops.any λk=>served.any (· == k))=false:=by
     rw [List.any_eq_false];intro y hy h9;obtain ⟨z,hz,e⟩:=List.any_eq_true.1 h9;rw [beq_iff_eq.1 e] at hz;obtain ⟨s,hs1,hx⟩:=(hmem y).1 hz;have:=VC s j y hx (hperm.mem_iff.1 hy);omega
    rw [hno,if_neg (by simp)];refine ih (j + 1) j (served ++ t.stops) (by omega) (by omega) (λy=>?_) ?_
    ·rw [List.mem_append,hmem,hperm.mem_iff];constructor
     ·rintro (⟨s,hs1,hx⟩ | hx)
      ·exact ⟨s,by omega,hx⟩
      ·exact ⟨j,by omega,hx⟩
     ·rintro ⟨s,hs1,hx⟩;rcases Nat.lt_succ_iff_lt_or_eq.1 hs1 with h1 | rfl
      ·exact .inl ⟨s,h1,hx⟩
      ·exact .inr hx
    ·rw [List.nodup_append];refine ⟨hnd,hperm.nodup_iff.2 ((A.o_ d j 0).imp λh=>Int.ne_of_lt h),λa ha b hb e=>?_⟩;subst e;obtain ⟨s,hs1,hx⟩:=(hmem a).1 ha;have:=VC s j a hx (hperm.mem_iff.1 hb);omega
theorem ahZ (h:(plan nd l ss r).2=0):checks nd l ss r ((plan nd l ss r).1.map λt=>((t.1:Int),t.2))=0:=by
 obtain ⟨h1,d,h2,h3⟩:=ahW h;rw [h3];unfold checks;rw [if_pos h1];have:=adI h1 h2 ss.length 0 (-1) [] (by omega) (by omega) (λx=>by simp) List.nodup_nil;rw [<-List.range_eq_range'] at this;exact this
end
end K
namespace K
section
variable {nd : Int} {l : List Ro} {ss : List S} {r : List Q}
structure Good (nd:Int) (l:List Ro) (ss:List S) (r:List Q) (t:Int × Tr):Prop where
 pos:0<=t.1
 sh:∃ x,ss[t.1.toNat]? = some x/\check nd l x r t.2=true
 ne:t.2.stops ≠ []
theorem Vj:∀ (ts:List (Int × Tr)) (last:Int) (served:List Int),fJ nd l ss r last served ts=0 ->
  (∀ t ∈ ts,last < t.1/\Good nd l ss r t)/\ts.Pairwise (λa b=>a.1 < b.1/\∀ x ∈ a.2.stops,x ∉ b.2.stops)/\(∀ t ∈ ts,∀ x ∈ t.2.stops,x ∉ served)/\r.length<=(served ++ ts.flatMap λt=>t.2.stops).length
 | [],last,served,h=>by
  refine ⟨λt h=>(by cases h),List.Pairwise.nil,λt h=>(by cases h),?_⟩;unfold fJ at h;split at h
  ·cases h
  ·rw [List.flatMap_nil,List.append_nil];omega
 | t :: ts,last,served,h=>by
  unfold fJ at h;by_cases hneg:t.1 < 0
  ·rw [if_pos hneg] at h;cases h
  ·rw [if_neg hneg] at h;cases hs:ss[t.1.toNat]? with
   | none=>rw [hs] at h;cases h
   | some x =>
    rw [hs] at h;dsimp only at h;split at h
    ·cases h
    ·rename_i h1
     split at h
     ·cases h
     ·rename_i h2
      split at h
      ·cases h
      ·rename_i h3
       rw [Bool.or_eq_true,not_or,List.isEmpty_iff] at h2;obtain ⟨i1,i2,i3,i4⟩:=Vj ts t.1 (served ++ t.2.stops) h;have hg:Good nd l ss r t:=⟨by omega,⟨x,hs,by simpa using h2.2⟩,h2.1⟩;refine ⟨λu hu=>?_,List.pairwise_cons.2 ⟨λu hu=>⟨(i1 u hu).1,λy hy hy2=>i3 u hu y hy2 (List.mem_append_right _ hy)⟩,i2⟩,λu hu y hy hy2=>?_,?_⟩
       ·rcases List.mem_cons.1 hu with rfl | hu
        ·exact ⟨by omega,hg⟩
        ·exact ⟨by have:=(i1 u hu).1;omega,(i1 u hu).2⟩
       ·rcases List.mem_cons.1 hu with rfl | hu
        ·refine h3 (List.any_eq_true.2 ⟨y,hy,List.any_eq_true.2 ⟨y,hy2,beq_self_eq_true _⟩⟩)
        ·exact i3 u hu y hy (List.mem_append_left _ hy2)
       ·rw [List.flatMap_cons,<-List.append_assoc];exact i4
end
end K
def Q.bare (q:Q):Q:=⟨q.node,q.room,q.aF,q.service,q.aB,q.aA,none,0,0,q.l⟩
def S.bare (s:S):S:=⟨s.day,s.ag,s.start,s.end_,s.aj,none,0,0,s.l⟩
namespace T
theorem UA (r:List Q):((r.map Q.bare).any λq=>!right q)=r.any λq=>!right q:=by rw [List.any_map];rfl
theorem QF (s:S) (r:List Q) (l:List Int):load s.bare (r.map Q.bare) l=load s r l:=by
 unfold load;rw [UA,List.length_map];rfl
theorem agc (r:List Q) (j i:Int):sD (r.map Q.bare) j i=sD r j i:=by
 unfold sD;rw [List.getElem?_map];cases r[i.toNat]? <;> rfl
theorem abf (r:List Q) (j:Int):∀ l,room (r.map Q.bare) j l=room r j l
 | []=>rfl
 | i :: l=>by rw [room,room,agc,abf r j l]
theorem Zw (r:List Q) (l:List Int):loads (r.map Q.bare) l=loads r l:=by simp only [loads,abf]
theorem VT (s:S) (r:List Q) (l:List Int):fits s.bare (r.map Q.bare) l=fits s r l:=by
 unfold fits;rw [QF,Zw];rfl
theorem F8 (s:S) (r:List Q) (l:List Int):weight s.bare (r.map Q.bare) l=weight s r l:=by
 unfold weight;rw [QF,Zw];rfl
end T
namespace K
theorem xx (r:List Q) (i:Int):req (r.map Q.bare) i=(req r i).bare:=by
 unfold req;rw [List.getElem?_map];cases r[i.toNat]? <;> rfl
section
variable (nd : Int) (l : List Ro) (s : S) (r : List Q)
theorem abH:∀ (v:List Int) (p:Int),jI nd (r.map Q.bare) p v=jI nd r p v
 | [],_=>rfl
 | k :: v,p=>by rw [jI,jI,abH v k,xx,List.length_map];rfl
theorem QS (v:List Int):aP nd l s.bare (r.map Q.bare) v=aP nd l s r v:=by
 unfold aP;rw [T.UA,abH];rfl
theorem UW (q:Q) (all:List Int) (arr:Int):begins s.bare (r.map Q.bare) q.bare all arr=begins s r q all arr:=by
 unfold begins;rw [T.VT];rfl
theorem aft (v:List Int) (st:St) (b:Option Tr):home nd l s.bare (r.map Q.bare) v st b=home nd l s r v st b:=by
 unfold home;rw [T.F8];rfl
theorem ahj (v:List Int) (st:St) (i:Nat) (k:Int):iG nd l s.bare (r.map Q.bare) v st i k=iG nd l s r v st i k:=by
 unfold iG;rw [T.F8,xx,UW];rfl
theorem go_bare (rec:St->Option Tr->Option Tr) (v:List Int) (st:St):∀ (rest:List Int) (b:Option Tr) (i:Nat),bK.go rec nd l s.bare (r.map Q.bare) v st b i rest=bK.go rec nd l s r v st b i rest
 | [],_,_=>rfl
 | k :: rest,b,i=>by
  rw [bK.go,bK.go,ahj];cases iG nd l s r v st i k with
  | none=>exact go_bare rec v st rest b (i + 1)
  | some st'=>exact go_bare rec v st rest (rec st' b) (i + 1)
theorem abD (v:List Int):∀ (f:Nat) (st:St) (b:Option Tr),bK nd l s.bare (r.map Q.bare) v f st b=bK nd l s r v f st b
 | 0,_,_=>rfl
 | f + 1,st,b=>by
  rw [bK,bK,aft,go_bare];have:bK nd l s.bare (r.map Q.bare) v f=bK nd l s r v f:=by funext st b;exact abD v f st b
  rw [this]
theorem U0 (v:List Int):best nd l s.bare (r.map Q.bare) v=best nd l s r v:=abD nd l s r v _ _ _
theorem ac0 (v:List Int):gG nd l s.bare (r.map Q.bare) v=gG nd l s r v:=by
 unfold gG;rw [QS,U0]
theorem agl (v row:List Int) (rest i:Nat) (q:Q):label nd l s.bare (r.map Q.bare) v row rest i q.bare=label nd l s r v row rest i q:=by
 unfold label labelOf arrives;have hn:nodes (r.map Q.bare) v=nodes r v:=by
  unfold nodes;refine List.map_congr_left λk _=>?_;rw [xx];rfl
 rw [hn,T.F8,UW];rfl
theorem aiQ (v:List Int) (t:List (List Int)) (m:Nat):rowOf nd l s.bare (r.map Q.bare) v t m=rowOf nd l s r v t m:=by
 unfold rowOf;refine List.map_congr_left λk _=>?_;rw [xx,agl]
theorem abT (v:List Int):∀ M,table nd l s.bare (r.map Q.bare) v M=table nd l s r v M
 | 0=>rfl
 | M + 1=>by rw [table,table,abT v M,aiQ]
theorem Zc (v:List Int):aS nd l s.bare (r.map Q.bare) v=aS nd l s r v:=by
 unfold aS;rw [QS,abT]
theorem ahl (v:List Int) (all:Nat):opensAt nd l s.bare (r.map Q.bare) v all=opensAt nd l s r v all:=by
 funext x
 unfold opensAt;rw [xx,T.F8];rfl
theorem adA (v:List Int) (b:List Lb):blocks nd l s.bare (r.map Q.bare) v b=blocks nd l s r v b:=by
 unfold blocks;rw [QS,Zc,ahl]
theorem aiy (o:List Int):right nd l s.bare (r.map Q.bare) o=right nd l s r o:=by
 unfold right;rw [T.QF];congr 2;congr 1;refine List.all_congr rfl λi=>?_;rw [xx];rfl
theorem aaE (v:List Int) (a t node:Int):reach nd l s.bare (r.map Q.bare) v a t node=reach nd l s r v a t node:=by
 unfold reach;rw [T.F8];rfl
theorem agw (v:List Int) (i a t:Int):ax nd l s.bare (r.map Q.bare) v i a t=ax nd l s r v i a t:=by
 unfold ax;rw [xx,T.VT,aaE];rfl
theorem Zh:∀ (o served:List Int) (a t:Int),ak nd l s.bare (r.map Q.bare) served a t o=ak nd l s r served a t o
 | [],_,_,_=>rfl
 | i :: o,served,a,t=>by
  rw [ak,ak,agw,xx];rw [show (req r i).bare.node=(req r i).node from rfl,show (req r i).bare.service=(req r i).service from rfl,Zh o]
theorem aiZ (o:List Int):run nd l s.bare (r.map Q.bare) o=run nd l s r o:=by
 unfold run;rw [aiy,show s.bare.ag=s.ag from rfl,show s.bare.start=s.start from rfl,Zh,aaE]
theorem adJ (t:Tr):check nd l s.bare (r.map Q.bare) t=check nd l s r t:=by
 unfold check;rw [aiZ]
variable (ss : List S)
theorem Fv:aH nd l (ss.map S.bare) (r.map Q.bare)=aH nd l ss r:=by
 unfold aH;rw [List.length_map,List.length_map,List.any_map,List.any_map];rfl
theorem VK:bM nd l (ss.map S.bare) (r.map Q.bare)=bM nd l ss r:=by
 funext k v
 unfold bM;rw [List.getElem?_map];cases ss[k]? with
 | none=>rfl
 | some x=>show ((gG nd l x.bare (r.map Q.bare) v).2 == 0)=_;rw [ac0]
theorem ajO (d:List Nat):nR nd l (ss.map S.bare) (r.map Q.bare) d=nR nd l ss r d:=by
 unfold nR;rw [List.length_map];congr 1;funext k
 rw [List.getElem?_map];cases ss[k]? with
 | none=>rfl
 | some x =>
  show (if _ then none else (best nd l x.bare (r.map Q.bare) _).map _)=_;rw [U0]
theorem Q8:plan nd l (ss.map S.bare) (r.map Q.bare)=plan nd l ss r:=by
 unfold plan;rw [Fv,VK,List.length_map,List.length_map];simp only [ajO]
theorem aaI:refute nd l (ss.map S.bare) (r.map Q.bare)=refute nd l ss r:=by
 unfold refute;rw [Q8];have h1:u_ nd l (ss.map S.bare) (r.map Q.bare)=u_ nd l ss r:=by
  unfold u_;rw [VK,List.length_map,List.length_map]
 have h2:pV nd l (ss.map S.bare) (r.map Q.bare)=pV nd l ss r:=by
  funext b
  unfold pV;rw [List.getElem?_map];cases ss[b.1]? with
  | none=>rfl
  | some x=>show (b.1,b.2,aS nd l x.bare (r.map Q.bare) b.2)=_;rw [Zc]
 rw [h1,h2]
theorem Vh:∀ (ts:List (Int × Tr)) (last:Int) (served:List Int),fJ nd l (ss.map S.bare) (r.map Q.bare) last served ts=fJ nd l ss r last served ts
 | [],_,_=>by unfold fJ;rw [List.length_map]
 | t :: ts,last,served=>by
  unfold fJ;rw [List.getElem?_map,Vh ts];by_cases hn:t.1 < 0
  ·simp only [if_pos hn]
  ·simp only [if_neg hn];cases ss[t.1.toNat]? with
   | none=>rfl
   | some x=>simp only [Option.map_some,adJ]
theorem Vp (ts:List (Int × Tr)):checks nd l (ss.map S.bare) (r.map Q.bare) ts=checks nd l ss r ts:=by
 unfold checks;rw [Fv,Vh]
theorem ahi:iZ nd l (ss.map S.bare) (r.map Q.bare)=iZ nd l ss r:=by
 funext b
 unfold iZ;rw [List.getElem?_map];by_cases hn:b.1 < 0
 ·simp only [if_pos hn]
 ·simp only [if_neg hn];cases ss[b.1.toNat]? with
  | none=>rfl
  | some x=>simp only [Option.map_some,adA]
theorem aaM (bl:List (Int × List Int × List Lb)):refutes nd l (ss.map S.bare) (r.map Q.bare) bl=refutes nd l ss r bl:=by
 unfold refutes;rw [Fv,ahi,List.length_map,List.length_map]
end
end K
namespace K
section
variable {nd : Int} {l : List Ro} {s : S} {r : List Q} {o : List Int}
theorem Zm:∀ (o v:List Int) (a t:Int),(ak nd l s r v a t o).e=0->(ak nd l s r v a t o).times.length=o.length
 | [],_,_,_,_=>rfl
 | i :: o,v,a,t,h=>by
  unfold ak at h ⊢;split
  ·rename_i h1
   rw [if_pos h1] at h;exact absurd h h1
  ·rename_i h1
   rw [if_neg h1] at h;rw [List.length_cons,List.length_cons];exact congrArg (· + 1) (Zm o _ _ _ h)
theorem ai1 (h:(run nd l s r o).e=0):(run nd l s r o).aI.times.length=o.length:=by
 obtain ⟨-,h2,-,h4⟩:=uZ h;rw [h4];exact Zm o [] _ _ h2
theorem ZN (h:(run nd l s r o).e=0) {k:Nat} (hk:k < o.length) {a t:Int} (hu:lG nd l s r o (run nd l s r o).aI.times k a t):∃ i y,o[k]? = some i/\(run nd l s r o).aI.times[k]? = some y/\Next nd l s r o (run nd l s r o).aI.times k a t i y:=by
 have hl:=ai1 h;exact ⟨_,_,zF hk,zF (by omega),next h hu (zF hk) (zF (by omega))⟩
end
end K
end Go.Proofs.YtippdjmpkafifaaGreat
