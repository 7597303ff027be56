import Derived.Test.YtippdjmpkafifaaGreatCP9
import Derived.Test.YtippdjmpkafifaaGreatCP15
import Derived.Test.YtippdjmpkafifaaGreatCP7
import Derived.Deep.Light
namespace Go.Proofs.YtippdjmpkafifaaGreat
open Go.RowKit
namespace K
def nextI (l:List Int):Nat→Option Nat
 | 0=>none
 | j + 1=>if (l[j + 1]?).getD 0 < (l[j]?).getD 0 then nextI l j else some j
def nextK (l:List Int) (x:Int):Nat→Nat
 | 0=>0
 | k + 1=>if (l[k]?).getD 0 < x then nextK l x k else k
def turned (l:List Int) (i k:Nat):List Int :=
 (((l.set i ((l[k]?).getD 0)).set k ((l[i]?).getD 0)).take (i + 1)) ++ (((l.set i ((l[k]?).getD 0)).set k ((l[i]?).getD 0)).drop (i + 1)).reverse
def nxt31 (l:List Int):Option (List Int):=match nextI l (l.length - 1) with
 | none=>none
 | some i=>some (turned l i (nextK l ((l[i]?).getD 0) l.length))
def orders:Nat→List Int→List (List Int)
 | 0,_=>[]
 | f + 1,l=>l :: match nxt31 l with | none=>[] | some l'=>orders f l'
def places (n:Nat):List Int:=(List.range n).map fun (i:Nat)=>(i:Int)
def grows:List (List Int)→Bool
 | []=>true
 | a :: l=>l.all (fun b=>lexle a b) && grows l
theorem orders_grow_all:∀ n:Fin 5,grows (orders 25 (places n.val))=true:=by decide +kernel
theorem orders_len_all:∀ n:Fin 5,(orders 25 (places n.val)).length≤24:=by decide +kernel
theorem orders_all1:∀ a:Fin 1,[(a.val:Int)] ∈ orders 25 (places 1):=by decide +kernel
theorem orders_all2:∀ a b:Fin 2,[a,b].Nodup→[(a.val:Int),b.val] ∈ orders 25 (places 2):=by decide +kernel
theorem orders_all3:∀ a b c:Fin 3,[a,b,c].Nodup→[(a.val:Int),b.val,c.val] ∈ orders 25 (places 3):=by decide +kernel
theorem orders_all4:∀ a b c d:Fin 4,[a,b,c,d].Nodup→[(a.val:Int),b.val,c.val,d.val] ∈ orders 25 (places 4):=by decide +kernel
theorem orders_mem_all:∀ n:Fin 5,∀ o ∈ orders 25 (places n.val),o.length=n.val∧o.Nodup∧∀ x ∈ o,0≤x∧x < n.val:=by decide +kernel
theorem nextI_lt {l:List Int}:∀ {j i:Nat},nextI l j=some i→i < j
 | 0,i,h=>by cases h
 | j + 1,i,h=>by
  rw [nextI] at h
  split at h
  ·have:=nextI_lt h;omega
  ·injection h with h;omega
theorem nextK_lt {l:List Int} {x:Int}:∀ {k:Nat},0 < k→nextK l x k < k
 | 0,h=>by omega
 | k + 1,_=>by
  rw [nextK]
  split
  ·cases k with
   | zero=>simp [nextK]
   | succ k=>have:=nextK_lt (l:=l) (x:=x) (k:=k + 1) (by omega);omega
  ·omega
section
variable {f : Int → Int} {l : List Int}
theorem map_at {i:Nat} (h:i < l.length):(((l.map f)[i]?).getD 0)=f ((l[i]?).getD 0):=by
 rw [List.getElem?_map,List.getElem?_eq_getElem h]
 rfl
theorem at_mem {i:Nat} (h:i < l.length):(l[i]?).getD 0 ∈ l:=by
 rw [List.getElem?_eq_getElem h]
 exact List.getElem_mem h
def Keeps (f:Int→Int) (l:List Int):Prop:=∀ a ∈ l,∀ b ∈ l,(f a < f b ↔ a < b)
theorem nextI_map (hf:Keeps f l):∀ j,(j=0∨j < l.length)→nextI (l.map f) j=nextI l j
 | 0,_=>rfl
 | j + 1,h=>by
  have h1:j + 1 < l.length:=by omega
  rw [nextI,nextI,map_at h1,map_at (show j < l.length by omega),nextI_map hf j (by omega)]
  simp only [hf _ (at_mem h1) _ (at_mem (show j < l.length by omega))]
theorem nextK_map (hf:Keeps f l) {x:Int} (hx:x ∈ l):∀ k,k≤l.length→nextK (l.map f) (f x) k=nextK l x k
 | 0,_=>rfl
 | k + 1,h=>by
  rw [nextK,nextK,map_at (show k < l.length by omega),nextK_map hf hx k (by omega)]
  simp only [hf _ (at_mem (show k < l.length by omega)) _ hx]
theorem turned_map {i k:Nat} (hi:i < l.length) (hk:k < l.length):turned (l.map f) i k=(turned l i k).map f:=by
 unfold turned
 rw [map_at hi,map_at hk]
 simp only [List.map_append,List.map_take,List.map_reverse,List.map_drop,List.map_set]
theorem turned_mem {i k:Nat} (hi:i < l.length) (hk:k < l.length):∀ x ∈ turned l i k,x ∈ l:=by
 intro x hx
 have h1:x ∈ (l.set i ((l[k]?).getD 0)).set k ((l[i]?).getD 0):=by
  unfold turned at hx
  rcases List.mem_append.1 hx with h | h
  ·exact List.mem_of_mem_take h
  ·exact List.mem_of_mem_drop (List.mem_reverse.1 h)
 rcases List.mem_or_eq_of_mem_set h1 with h | h
 ·rcases List.mem_or_eq_of_mem_set h with h | h
  ·exact h
  ·rw [h];exact at_mem hk
 ·rw [h];exact at_mem hi
theorem next_map (hf:Keeps f l):nxt31 (l.map f)=(nxt31 l).map (List.map f)∧∀ l',nxt31 l=some l'→∀ x ∈ l',x ∈ l:=by
 unfold nxt31
 rw [List.length_map,nextI_map hf _ (by omega)]
 cases h:nextI l (l.length - 1) with
 | none=>exact ⟨rfl,fun _ h=>by cases h⟩
 | some i =>
  have hi:i < l.length:=by have:=nextI_lt h;omega
  have hk:nextK l ((l[i]?).getD 0) l.length < l.length:=nextK_lt (by omega)
  dsimp only
  rw [map_at hi,nextK_map hf (at_mem hi) _ (Nat.le_refl _),turned_map hi hk]
  refine ⟨rfl,fun l' h=>?_⟩
  injection h with h
  subst h
  exact turned_mem hi hk
end
theorem orders_map {f:Int→Int}:∀ (n:Nat) (l:List Int),Keeps f l→orders n (l.map f)=(orders n l).map (List.map f)
 | 0,_,_=>rfl
 | n + 1,l,hf=>by
  obtain ⟨h1,h2⟩:=next_map hf
  rw [orders,orders,h1]
  cases h:nxt31 l with
  | none=>rfl
  | some l' =>
   have hf':Keeps f l':=fun a ha b hb=>hf a (h2 l' h a ha) b (h2 l' h b hb)
   simp only [Option.map_some,List.map_cons]
   rw [orders_map n l' hf']
theorem places_map (v:List Int):(places v.length).map (fun i=>(v[i.toNat]?).getD 0)=v:=by
 apply List.ext_getElem?
 intro k
 unfold places
 rw [List.map_map,List.getElem?_map]
 by_cases h:k < v.length
 ·rw [List.getElem?_range h]
  simp [h]
 ·rw [List.getElem?_eq_none (by simpa using h),List.getElem?_eq_none (by omega)]
  rfl
end K
namespace K
theorem perm_of {o v:List Int} (h1:o.Nodup) (h2:v.Nodup) (h3:∀ x ∈ o,x ∈ v) (h4:o.length=v.length):o.Perm v:=by
 have h5:(v.filter fun x=>decide (x ∈ o)).Perm o:=by
  refine (List.perm_ext_iff_of_nodup (h2.filter _) h1).2 fun x=>?_
  rw [List.mem_filter]
  exact ⟨fun h=>of_decide_eq_true h.2,fun h=>⟨h3 x h,decide_eq_true h⟩⟩
 have h6:v.filter (fun x=>decide (x ∈ o))=v:=List.filter_eq_self.2 (List.length_filter_eq_length_iff.1 (by rw [h5.length_eq,h4]))
 rw [h6] at h5
 exact h5.symm
theorem orders_all {n:Nat} (hn:n≤4) {σ:List Int} (hl:σ.length=n) (hd:σ.Nodup) (hr:∀ x ∈ σ,0≤x∧x < (n:Int)):σ ∈ orders 25 (places n):=by
 have hz:∀ x:Int,0≤x→x < (n:Int)→∃ a:Fin n,(a.val:Int)=x:=fun x h0 h1=>⟨⟨x.toNat,by omega⟩,by show ((x.toNat:Nat):Int)=x;omega⟩
 match n,hn,σ,hl with
 | 0,_,[],_=>decide
 | 1,_,[x],_ =>
  obtain ⟨a,rfl⟩:=hz x (hr x (by simp)).1 (hr x (by simp)).2
  exact orders_all1 a
 | 2,_,[x,y],_ =>
  obtain ⟨a,rfl⟩:=hz x (hr x (by simp)).1 (hr x (by simp)).2
  obtain ⟨b,rfl⟩:=hz y (hr y (by simp)).1 (hr y (by simp)).2
  refine orders_all2 a b ?_
  simp only [List.nodup_cons,List.mem_cons,List.not_mem_nil,or_false,not_false_eq_true,List.nodup_nil,and_true] at hd ⊢
  exact fun h=>hd (by rw [h])
 | 3,_,[x,y,z],_ =>
  obtain ⟨a,rfl⟩:=hz x (hr x (by simp)).1 (hr x (by simp)).2
  obtain ⟨b,rfl⟩:=hz y (hr y (by simp)).1 (hr y (by simp)).2
  obtain ⟨c,rfl⟩:=hz z (hr z (by simp)).1 (hr z (by simp)).2
  refine orders_all3 a b c ?_
  simp only [List.nodup_cons,List.mem_cons,List.not_mem_nil,or_false,not_or,not_false_eq_true,List.nodup_nil,and_true] at hd ⊢
  exact ⟨⟨fun h=>hd.1.1 (by rw [h]),fun h=>hd.1.2 (by rw [h])⟩,fun h=>hd.2 (by rw [h])⟩
 | 4,_,[x,y,z,u],_ =>
  obtain ⟨a,rfl⟩:=hz x (hr x (by simp)).1 (hr x (by simp)).2
  obtain ⟨b,rfl⟩:=hz y (hr y (by simp)).1 (hr y (by simp)).2
  obtain ⟨c,rfl⟩:=hz z (hr z (by simp)).1 (hr z (by simp)).2
  obtain ⟨d,rfl⟩:=hz u (hr u (by simp)).1 (hr u (by simp)).2
  refine orders_all4 a b c d ?_
  simp only [List.nodup_cons,List.mem_cons,List.not_mem_nil,or_false,not_or,not_false_eq_true,List.nodup_nil,and_true] at hd ⊢
  exact ⟨⟨fun h=>hd.1.1 (by rw [h]),fun h=>hd.1.2.1 (by rw [h]),fun h=>hd.1.2.2 (by rw [h])⟩,⟨fun h=>hd.2.1.1 (by rw [h]),fun h=>hd.2.1.2 (by rw [h])⟩,fun h=>hd.2.2 (by rw [h])⟩
theorem grows_pairwise:∀ {l:List (List Int)},grows l=true→l.Pairwise fun a b=>lexle a b=true
 | [],_=>.nil
 | a :: l,h=>by
  simp only [grows,Bool.and_eq_true,List.all_eq_true] at h
  exact .cons h.1 (grows_pairwise h.2)
theorem lexle_map {f:Int→Int}:∀ {a b:List Int},(∀ x ∈ a,∀ y ∈ b,(f x < f y ↔ x < y)∧(f x=f y ↔ x=y))→lexle (a.map f) (b.map f)=lexle a b
 | [],_,_=>rfl
 | _ :: _,[],_=>rfl
 | x :: a,y :: b,h=>by
  obtain ⟨h1,h2⟩:=h x (List.mem_cons_self ..) y (List.mem_cons_self ..)
  simp only [List.map_cons,lexle,h1,h2]
  rw [lexle_map fun p hp q hq=>h p (List.mem_cons_of_mem _ hp) q (List.mem_cons_of_mem _ hq)]
theorem lexle_anti:∀ {a b:List Int},a.length=b.length→lexle a b=true→lexle b a=true→a=b
 | [],[],_,_,_=>rfl
 | x :: a,y :: b,hl,h1,h2=>by
  unfold lexle at h1 h2
  by_cases hxy:x=y
  ·rw [if_pos hxy] at h1
   rw [if_pos hxy.symm] at h2
   rw [hxy,lexle_anti (by simpa using hl) h1 h2]
  ·rw [if_neg hxy] at h1
   rw [if_neg (Ne.symm hxy)] at h2
   have h1:=of_decide_eq_true h1
   have h2:=of_decide_eq_true h2
   omega
section
variable {v : List Int} (hs : v.Pairwise (· < ·)) (h4 : v.length ≤ 4)
def elemAt (v:List Int) (i:Int):Int:=(v[i.toNat]?).getD 0
theorem elemAt_lt (hs:v.Pairwise (· < ·)) {i j:Int} (hi:0≤i∧i < (v.length:Int)) (hj:0≤j∧j < (v.length:Int)):(elemAt v i < elemAt v j ↔ i < j)∧(elemAt v i=elemAt v j ↔ i=j):=by
 have key:∀ a b:Int,0≤a→a < b→b < (v.length:Int)→elemAt v a < elemAt v b:=fun a b h0 h1 h2=>by
  unfold elemAt
  rw [List.getElem?_eq_getElem (show a.toNat < v.length by omega),List.getElem?_eq_getElem (show b.toNat < v.length by omega)]
  exact (List.pairwise_iff_getElem.1 hs) _ _ _ _ (by omega)
 rcases Int.lt_trichotomy i j with h | h | h
 ·have:=key i j hi.1 h hj.2
  exact ⟨⟨fun _=>h,fun _=>this⟩,⟨fun e=>by omega,fun e=>by omega⟩⟩
 ·subst h
  exact ⟨⟨fun h=>absurd h (Int.lt_irrefl _),fun h=>absurd h (Int.lt_irrefl _)⟩,⟨fun _=>rfl,fun _=>rfl⟩⟩
 ·have:=key j i hj.1 h hi.2
  exact ⟨⟨fun _=>by omega,fun _=>by omega⟩,⟨fun e=>by omega,fun e=>by omega⟩⟩
theorem places_mem {n:Nat} {x:Int} (h:x ∈ places n):0≤x∧x < (n:Int):=by
 unfold places at h
 obtain ⟨i,hi,rfl⟩:=List.mem_map.1 h
 have:=List.mem_range.1 hi
 omega
include hs in
theorem orders_v:orders 25 v=(orders 25 (places v.length)).map (List.map (elemAt v)):=by
 have h1:=orders_map (f:=elemAt v) 25 (places v.length) fun a ha b hb=>(elemAt_lt hs (places_mem ha) (places_mem hb)).1
 have h2:(places v.length).map (elemAt v)=v:=places_map v
 rw [h2] at h1
 exact h1
include hs h4 in
theorem orders_grow:(orders 25 v).Pairwise fun a b=>lexle a b=true:=by
 rw [orders_v hs]
 have h1:=grows_pairwise (orders_grow_all ⟨v.length,by omega⟩)
 refine List.pairwise_map.2 ?_
 refine List.Pairwise.imp_of_mem (fun {a b} ha hb hab=>?_) h1
 obtain ⟨-,-,ra⟩:=orders_mem_all ⟨v.length,by omega⟩ a ha
 obtain ⟨-,-,rb⟩:=orders_mem_all ⟨v.length,by omega⟩ b hb
 rw [lexle_map fun x hx y hy=>elemAt_lt hs (ra x hx) (rb y hy)]
 exact hab
include hs h4 in
theorem mem_orders {o:List Int}:o ∈ orders 25 v ↔ o.Perm v:=by
 have hnd:v.Nodup:=hs.imp fun h=>Int.ne_of_lt h
 rw [orders_v hs,List.mem_map]
 constructor
 ·rintro ⟨σ,hσ,rfl⟩
  obtain ⟨r1,r2,r3⟩:=orders_mem_all ⟨v.length,by omega⟩ σ hσ
  refine perm_of ?_ hnd ?_ (by rw [List.length_map];exact r1)
  ·refine List.pairwise_map.2 (List.Pairwise.imp_of_mem (fun {a b} ha hb hab he=>hab ?_) r2)
   exact (elemAt_lt hs (r3 a ha) (r3 b hb)).2.1 he
  ·intro x hx
   obtain ⟨i,hi,rfl⟩:=List.mem_map.1 hx
   have:=r3 i hi
   unfold elemAt
   have h9:i.toNat < v.length:=by have h8:(i.toNat:Int)=i:=by omega
                                  have h7:i < (v.length:Int):=this.2
                                  omega
   rw [List.getElem?_eq_getElem h9]
   exact List.getElem_mem h9
 ·intro hp
  refine ⟨o.map (place v),orders_all h4 (by rw [List.length_map,hp.length_eq]) ?_ ?_,?_⟩
  ·refine List.pairwise_map.2 (List.Pairwise.imp_of_mem (fun {a b} ha hb hab he=>hab ?_) (hp.nodup_iff.2 hnd))
   obtain ⟨i,hi⟩:=List.mem_iff_getElem?.1 (hp.mem_iff.1 ha)
   obtain ⟨j,hj⟩:=List.mem_iff_getElem?.1 (hp.mem_iff.1 hb)
   rw [place_at hnd hi,place_at hnd hj] at he
   have:i=j:=by omega
   subst this
   rw [hi] at hj
   injection hj
  ·intro x hx
   obtain ⟨y,hy,rfl⟩:=List.mem_map.1 hx
   obtain ⟨i,hi⟩:=List.mem_iff_getElem?.1 (hp.mem_iff.1 hy)
   have:=(List.getElem?_eq_some_iff.1 hi).1
   rw [place_at hnd hi]
   omega
  ·rw [List.map_map]
   conv=>rhs;rw [←List.map_id o]
   refine List.map_congr_left fun y hy=>?_
   obtain ⟨i,hi⟩:=List.mem_iff_getElem?.1 (hp.mem_iff.1 hy)
   show elemAt v (place v y)=y
   rw [place_at hnd hi]
   unfold elemAt
   rw [Int.toNat_natCast,hi]
   rfl
end
end K
namespace K
section
variable {nd : Int} {l : List Ro} {s : S} {r : List Q} {v : List Int}
def pick (nd:Int) (l:List Ro) (s:S) (r:List Q):List (List Int)→Option Tr→Option Tr
 | [],b=>b
 | o :: os,b=>pick nd l s r os (if (run nd l s r o).e=0∧better b (run nd l s r o).tour.end_=true then some (run nd l s r o).tour else b)
theorem run_stops {o:List Int} (h:(run nd l s r o).e=0):(run nd l s r o).tour.stops=o:=by rw [(run_ok h).2.2.2]
theorem pick_law:∀ (L:List (List Int)) (b:Option Tr),L.Pairwise (fun a b=>lexle a b=true) →
  (∀ t,pick nd l s r L b=some t→b=some t∨∃ o ∈ L,(run nd l s r o).e=0∧t=(run nd l s r o).tour) ∧
  (∀ b0,b=some b0→∃ t,pick nd l s r L b=some t∧(t=b0∨t.end_ < b0.end_)) ∧
  (∀ o ∈ L,(run nd l s r o).e=0→∃ t,pick nd l s r L b=some t∧t.end_≤(run nd l s r o).tour.end_∧(t.end_=(run nd l s r o).tour.end_→b=some t∨lexle t.stops o=true))
 | [],b,_=>⟨fun t h=>.inl h,fun b0 h=>⟨b0,h,.inl rfl⟩,fun o h=>by cases h⟩
 | a :: L,b,hp=>by
  have hp1:=(List.pairwise_cons.1 hp).1
  have hp2:=(List.pairwise_cons.1 hp).2
  unfold pick
  by_cases hc:(run nd l s r a).e=0∧better b (run nd l s r a).tour.end_=true
  ·rw [if_pos hc]
   obtain ⟨i1,i2,i3⟩:=pick_law L (some (run nd l s r a).tour) hp2
   obtain ⟨t0,ht0,hle0⟩:=i2 _ rfl
   refine ⟨fun t h=>?_,fun b0 hb=>?_,fun o ho he=>?_⟩
   ·rcases i1 t h with h | ⟨o,ho,h1,h2⟩
    ·injection h with h
     exact .inr ⟨a,List.mem_cons_self ..,hc.1,h.symm⟩
    ·exact .inr ⟨o,List.mem_cons_of_mem _ ho,h1,h2⟩
   ·subst hb
    have hlt:(run nd l s r a).tour.end_ < b0.end_:=of_decide_eq_true hc.2
    refine ⟨t0,ht0,.inr ?_⟩
    rcases hle0 with rfl | h
    ·exact hlt
    ·omega
   ·rcases List.mem_cons.1 ho with rfl | ho
    ·refine ⟨t0,ht0,?_,fun heq=>.inr ?_⟩
     ·rcases hle0 with rfl | h
      ·exact Int.le_refl _
      ·omega
     ·rcases hle0 with rfl | h
      ·rw [run_stops hc.1];exact lexle_refl _
      ·omega
    ·obtain ⟨t,ht,h1,h2⟩:=i3 o ho he
     refine ⟨t,ht,h1,fun heq=>?_⟩
     rcases h2 heq with h | h
     ·injection h with h
      refine .inr ?_
      rw [←h,run_stops hc.1]
      exact hp1 o ho
     ·exact .inr h
  ·rw [if_neg hc]
   obtain ⟨i1,i2,i3⟩:=pick_law L b hp2
   refine ⟨fun t h=>?_,i2,fun o ho he=>?_⟩
   ·rcases i1 t h with h | ⟨o,ho,h1,h2⟩
    ·exact .inl h
    ·exact .inr ⟨o,List.mem_cons_of_mem _ ho,h1,h2⟩
   ·rcases List.mem_cons.1 ho with rfl | ho
    ·cases hb:b with
     | none=>exact absurd ⟨he,by rw [hb];rfl⟩ hc
     | some b0 =>
      obtain ⟨t,ht,h1⟩:=i2 b0 hb
      have hge:¬ (run nd l s r o).tour.end_ < b0.end_:=fun h=>hc ⟨he,by rw [hb];exact decide_eq_true h⟩
      rw [hb] at ht
      refine ⟨t,ht,?_,fun heq=>.inl ?_⟩
      ·rcases h1 with rfl | h1 <;> omega
      ·rcases h1 with rfl | h1
       ·rfl
       ·omega
    ·exact i3 o ho he
theorem pick_best (hok:ok31 nd l s r v=true) (h4:v.length≤4):pick nd l s r (orders 25 v) none=best nd l s r v:=by
 have hs:=set_sorted hok
 obtain ⟨i1,-,i3⟩:=pick_law (nd:=nd) (l:=l) (s:=s) (r:=r) (orders 25 v) none (orders_grow hs h4)
 cases hb:best nd l s r v with
 | none =>
  cases hp:pick nd l s r (orders 25 v) none with
  | none=>rfl
  | some t =>
   rcases i1 t hp with h | ⟨o,ho,h1,-⟩
   ·cases h
   ·obtain ⟨t',ht',-⟩:=best_law hok ((mem_orders hs h4).1 ho) h1
    rw [hb] at ht';cases ht'
 | some t =>
  obtain ⟨g1,g2,-⟩:=best_tour hok hb
  obtain ⟨t',h1,h2,h3⟩:=i3 t.stops ((mem_orders hs h4).2 g1) (by rw [g2])
  rw [g2] at h2 h3
  rcases i1 t' h1 with h | ⟨o,ho,e1,e2⟩
  ·cases h
  ·have ho2:=(mem_orders hs h4).1 ho
   obtain ⟨t2,k1,k2,k3⟩:=best_law hok ho2 e1
   rw [hb] at k1
   injection k1 with k1
   subst k1
   rw [←e2] at k2 k3
   have h2:t'.end_≤t.end_:=h2
   have heq:t'.end_=t.end_:=by omega
   have hst:t'.stops=o:=by rw [e2];exact run_stops e1
   have l1:lexle t'.stops t.stops=true:=by
    rcases h3 heq with h | h
    ·cases h
    ·exact h
   have l2:=k3 heq.symm
   have:o=t.stops:=lexle_anti (by rw [ho2.length_eq,g1.length_eq]) (by rw [←hst];exact l1) l2
   rw [h1,e2,this,g2]
end
end K
namespace K
theorem noted_comm {y1 t1 y2 t2:Int} (f:Int) (g1:-1≤y1) (g2:-1≤t1) (g3:-1≤y2) (g4:-1≤t2):noted y1 (noted y2 f t2) t1=noted y2 (noted y1 f t1) t2:=by
 unfold noted
 by_cases h1:y1=-1 <;> by_cases h2:y2=-1 <;> by_cases h3:t1=-1 <;> by_cases h4:t2=-1 <;> simp only [h1,h2,h3,h4,ne_eq,not_true_eq_false,not_false_eq_true,false_and,true_and,if_false,and_false] <;> (repeat' split) <;> omega
theorem firsts_noted {nd:Int} {l:List Ro} {wt tn y t:Int} (hy:-1≤y) (ht:-1≤t):∀ (z:List (Int × Int)) (f:Int),(∀ p ∈ z,-1≤p.2)→firsts nd l wt tn z (noted y f t)=noted y (firsts nd l wt tn z f) t
 | [],_,_=>rfl
 | p :: z,f,hz=>by
  have h1:∀ f,firsts nd l wt tn (p :: z) f=firsts nd l wt tn z (noted (way nd l p.1 wt tn) f p.2):=fun _=>rfl
  rw [h1,h1,noted_comm f (way_bd _ _ _ _ _).1 (hz p (List.mem_cons_self ..)) hy ht,firsts_noted hy ht z _ fun q hq=>hz q (List.mem_cons_of_mem _ hq)]
def may (s:S) (r:List Q) (q:Q) (all:List Int) (f:Int):Bool :=
 (H.fit q.l f q.service).2 && (decide (0≤f) && (decide (f≤s.end_) && (decide ((H.fit q.l f q.service).1 + q.service≤s.end_) && (T.fits s r all && (decide (q.frm≤s.day) && decide (s.day≤q.by_))))))
theorem labelOf_may {s:S} {r:List Q} {q:Q} {all:List Int} {f:Int}:labelOf s r q all f=if may s r q all f=true then (H.fit q.l f q.service).1 + q.service else -1:=by
 unfold labelOf
 by_cases h1:f=-1
 ·rw [if_pos h1,if_neg]
  simp only [may,Bool.and_eq_true,decide_eq_true_eq]
  omega
 rw [if_neg h1]
 by_cases h2:(begins s r q all f).2=true
 ·rw [if_pos h2]
  obtain ⟨a1,a2,a3,a4,a5,a6,a7⟩:=begins_ok h2
  rw [a3] at a6 ⊢
  have a8:¬ (s.day < q.frm∨q.by_ < s.day∨s.end_ < f∨T.fits s r all=false):=fun h=>(a1 ▸ h:False)
  rw [if_pos]
  simp only [may,Bool.and_eq_true,decide_eq_true_eq]
  have a9:T.fits s r all=true:=by
   cases h:T.fits s r all with
   | true=>rfl
   | false=>exact absurd (.inr (.inr (.inr h))) a8
  have b1:¬ s.day < q.frm:=fun h=>a8 (.inl h)
  have b2:¬ q.by_ < s.day:=fun h=>a8 (.inr (.inl h))
  have b3:¬ s.end_ < f:=fun h=>a8 (.inr (.inr (.inl h)))
  exact ⟨a2,a4,by omega,a6,a9,by omega,by omega⟩
 ·rw [if_neg h2,if_neg]
  intro h
  simp only [may,Bool.and_eq_true,decide_eq_true_eq] at h
  obtain ⟨c1,c2,c3,c4,c5,c6,c7⟩:=h
  apply h2
  unfold begins
  rw [if_neg]
  ·simp only [Bool.and_eq_true,decide_eq_true_eq]
   exact ⟨c1,c4⟩
  ·rintro (h | h | h | h)
   ·omega
   ·omega
   ·omega
   ·rw [c5] at h;cases h
section
variable (nd : Int) (l : List Ro) (s : S) (r : List Q) (v : List Int)
def locGo (rest:Nat) (tn:Int):Nat→Int
 | 0=>-1
 | i + 1=>noted (way nd l (req r ((v[i]?).getD 0)).node (T.weight s r (part v rest)) tn) (locGo rest tn i) (lab nd l s r v rest i)
def locF (rest:Nat) (tn:Int):Int:=noted (way nd l s.depot (T.weight s r (part v rest)) tn) (locGo nd l s r v rest tn v.length) (if rest=0 then s.start else -1)
def nlab (m i:Nat):Nat:=(tabLabs v.length (table nd l s r v (2 ^ v.length)) m).length + (rowLabs m (((table nd l s r v (2 ^ v.length))[m]?).getD []) i).length
end
section
variable {nd : Int} {l : List Ro} {s : S} {r : List Q} {v : List Int}
theorem locGo_bd (hc:Case31 nd l s r v) (rest:Nat) (tn:Int):∀ i,-1≤locGo nd l s r v rest tn i∧locGo nd l s r v rest tn i≤60001000000
 | 0=>by simp [locGo]
 | i + 1=>by
  have h1:=locGo_bd hc rest tn i
  have h2:=way_bd nd l (req r ((v[i]?).getD 0)).node (T.weight s r (part v rest)) tn
  have h3:=lab_bd hc rest i
  rw [locGo]
  unfold noted
  split <;> omega
theorem locF_bd (hc:Case31 nd l s r v) (hs:s.start≤1000000) (rest:Nat) (tn:Int):-1≤locF nd l s r v rest tn∧locF nd l s r v rest tn≤60001000000:=by
 have h1:=locGo_bd hc rest tn v.length
 have h2:=way_bd nd l s.depot (T.weight s r (part v rest)) tn
 have h3:=hc.start
 unfold locF
 by_cases h:rest=0
 ·rw [if_pos h]
  unfold noted
  split <;> omega
 ·rw [if_neg h,noted_no2 rfl]
  exact h1
theorem locGo_firsts (rest:Nat) (tn:Int):∀ i,i≤v.length→locGo nd l s r v rest tn i=firsts nd l (T.weight s r (part v rest)) tn (((nodes r v).zip (rowOf nd l s r v (table nd l s r v rest) rest)).take i) (-1)
 | 0,_=>rfl
 | i + 1,hi=>by
  have hil:i < v.length:=hi
  have hz:((nodes r v).zip (rowOf nd l s r v (table nd l s r v rest) rest))[i]? = some ((req r ((v[i]?).getD 0)).node,lab nd l s r v rest i):=by
   rw [List.getElem?_zip_eq_some]
   refine ⟨by rw [nodes,List.getElem?_map,List.getElem?_eq_getElem hil];rfl,?_⟩
   unfold lab
   rw [List.getElem?_eq_getElem (by rw [rowOf_len];exact hil),Option.getD_some]
  rw [locGo,locGo_firsts rest tn i (by omega),take_snoc hz]
  unfold firsts
  rw [List.foldl_append]
  rfl
theorem locF_arrives (hc:Case31 nd l s r v) (rest:Nat) (q:Q):locF nd l s r v rest q.node=arrives nd l s r v (rowOf nd l s r v (table nd l s r v rest) rest) rest q:=by
 have h1:first0 nd l s (T.weight s r (part v rest)) q.node rest=noted (way nd l s.depot (T.weight s r (part v rest)) q.node) (-1) (if rest=0 then s.start else -1):=by
  unfold first0
  by_cases h:rest=0
  ·rw [if_pos h,if_pos h]
  ·rw [if_neg h,if_neg h,noted_no2 rfl]
 unfold arrives locF
 have hst:=hc.start
 rw [h1,firsts_noted (way_bd _ _ _ _ _).1 (by split <;> omega) _ _ fun p hp=>?_,locGo_firsts rest q.node v.length (Nat.le_refl _),List.take_of_length_le (by rw [List.length_zip,rowOf_len];omega)]
 obtain ⟨a,b⟩:=p
 exact (rowOf_bd (fun k hk=>(hc.ok k hk).1) b (List.of_mem_zip hp).2).1
theorem lab_local (hc:Case31 nd l s r v) {m i:Nat} {k:Int} (hm:m < 2 ^ v.length) (hk:v[i]? = some k) (hb:m.testBit i=true) :
  lab nd l s r v m i=labelOf s r (req r k) (part v m) (locF nd l s r v (m - 2 ^ i) (req r k).node):=by
 have hil:=(List.getElem?_eq_some_iff.1 hk).1
 have hl6:=hc.len
 have hm64:m < 64:=Nat.lt_of_lt_of_le hm (Nat.pow_le_pow_right (by omega) hl6)
 obtain ⟨hre,hrb⟩:=bit_rest hm64 (by omega) hb
 have hpw:=Nat.two_pow_pos i
 unfold lab
 rw [rowOf_at hk,Option.getD_some,if_pos hb,table_at (by omega),Option.getD_some,label,hre,locF_arrives hc]
theorem lab_no {m i:Nat} (hb:m.testBit i=false):lab nd l s r v m i=-1:=by
 unfold lab
 cases h:v[i]? with
 | none =>
  have:v.length≤i:=by simpa using h
  rw [List.getElem?_eq_none (by rw [rowOf_len];exact this)]
  rfl
 | some k=>rw [rowOf_at h,hb];rfl
theorem rowLabs_zero (row:List Int):∀ i,rowLabs 0 row i=[]
 | 0=>rfl
 | i + 1=>by rw [rowLabs,rowLabs_zero row i,Nat.zero_testBit];rfl
theorem nlab_zero:nlab nd l s r v 1 0=0:=by
 unfold nlab
 rw [tabLabs,rowLabs_zero]
 rfl
theorem nlab_skip {m i:Nat} (h:m.testBit i=false):nlab nd l s r v m (i + 1)=nlab nd l s r v m i:=by
 unfold nlab
 rw [rowLabs,h]
 simp
theorem nlab_next {m i:Nat} (h:m.testBit i=true):nlab nd l s r v m (i + 1)=nlab nd l s r v m i + 1:=by
 unfold nlab
 rw [rowLabs,h]
 simp
 omega
theorem nlab_row (m:Nat):nlab nd l s r v m v.length=nlab nd l s r v (m + 1) 0:=by
 unfold nlab
 rw [tabLabs,List.length_append]
 rfl
theorem nlab_end (h:ok31 nd l s r v=true):nlab nd l s r v (2 ^ v.length) 0=(labs nd l s r v).length:=by
 unfold nlab labs
 rw [if_pos h]
 rfl
theorem rowLabs_pre {m:Nat} {row:List Int} {i:Nat}:∀ {j:Nat},i≤j→∃ x,rowLabs m row j=rowLabs m row i ++ x
 | 0,h=>⟨[],by rw [show i=0 by omega];simp⟩
 | j + 1,h=>by
  by_cases e:i=j + 1
  ·exact ⟨[],by rw [e];simp⟩
  ·obtain ⟨x,hx⟩:=rowLabs_pre (m:=m) (row:=row) (i:=i) (j:=j) (by omega)
   exact ⟨_,by rw [rowLabs,hx,List.append_assoc]⟩
theorem tabLabs_pre {n:Nat} {t:List (List Int)} {i:Nat}:∀ {j:Nat},i≤j→∃ x,tabLabs n t j=tabLabs n t i ++ x
 | 0,h=>⟨[],by rw [show i=0 by omega];simp⟩
 | j + 1,h=>by
  by_cases e:i=j + 1
  ·exact ⟨[],by rw [e];simp⟩
  ·obtain ⟨x,hx⟩:=tabLabs_pre (n:=n) (t:=t) (i:=i) (j:=j) (by omega)
   exact ⟨_,by rw [tabLabs,hx,List.append_assoc]⟩
theorem labs_nth (h:ok31 nd l s r v=true) {m i:Nat} (hm:m < 2 ^ v.length) (hi:i < v.length) (hb:m.testBit i=true):(labs nd l s r v)[nlab nd l s r v m i]? = some ⟨m,i,lab nd l s r v m i⟩:=by
 obtain ⟨x,hx⟩:=tabLabs_pre (n:=v.length) (t:=table nd l s r v (2 ^ v.length)) (i:=m + 1) (j:=2 ^ v.length) hm
 obtain ⟨y,hy⟩:=rowLabs_pre (m:=m) (row:=((table nd l s r v (2 ^ v.length))[m]?).getD []) (i:=i + 1) (j:=v.length) hi
 unfold labs
 rw [if_pos h,hx,tabLabs,hy]
 unfold nlab
 rw [rowLabs,hb,if_pos rfl,List.append_assoc,List.getElem?_append_right (by omega),Nat.add_sub_cancel_left,List.append_assoc,List.append_assoc,List.getElem?_append_right (Nat.le_refl _),Nat.sub_self,table_at hm]
 rfl
end
end K
namespace K
def lessV (a b:Int):Int:=if a < 0∨(0≤b∧b < a) then b else a
def refLabel (s:S) (r:List Q) (q:Q) (all:List Int) (f:Int):Int :=
 if s.day < q.frm∨q.by_ < s.day∨T.fits s r all=false then -1
 else if f < 0∨s.end_ < f then -1
 else if (H.fit q.l f q.service).2=false∨s.end_ < (H.fit q.l f q.service).1 + q.service then -1
 else (H.fit q.l f q.service).1 + q.service
theorem refLabel_eq (s:S) (r:List Q) (q:Q) (all:List Int) (f:Int):refLabel s r q all f=labelOf s r q all f:=by
 rw [labelOf_may]
 unfold refLabel may
 cases h1:T.fits s r all <;> cases h2:(H.fit q.l f q.service).2 <;> simp <;> (repeat' split) <;> first | rfl | omega
section
variable {nd : Int} {l : List Ro} {s : S} {r : List Q} {v : List Int}
theorem lab_zero (i:Nat):lab nd l s r v 0 i=-1:=lab_no (Nat.zero_testBit i)
theorem locGo_zero (tn:Int):∀ i,locGo nd l s r v 0 tn i=-1
 | 0=>rfl
 | i + 1=>by rw [locGo,locGo_zero tn i,lab_zero,noted_no2 rfl]
theorem locF_zero (tn:Int):locF nd l s r v 0 tn=if way nd l s.depot (T.weight s r (part v 0)) tn < 0 then -1 else if s.start=-1 then -1 else s.start + way nd l s.depot (T.weight s r (part v 0)) tn:=by
 have hw:=way_bd nd l s.depot (T.weight s r (part v 0)) tn
 unfold locF
 rw [locGo_zero,if_pos rfl]
 unfold noted
 by_cases h1:way nd l s.depot (T.weight s r (part v 0)) tn < 0
 ·rw [if_pos h1,if_neg (by omega)]
 ·rw [if_neg h1]
  by_cases h2:s.start=-1
  ·rw [if_pos h2,if_neg (by omega)]
  ·rw [if_neg h2,if_pos ⟨by omega,h2,.inl rfl⟩]
theorem locF_pos {rest:Nat} (h:rest ≠ 0) (tn:Int):locF nd l s r v rest tn=locGo nd l s r v rest tn v.length:=by
 unfold locF
 rw [if_neg h,noted_no2 rfl]
theorem locGo_skip {rest i:Nat} {tn:Int} (h:lab nd l s r v rest i=-1):locGo nd l s r v rest tn (i + 1)=locGo nd l s r v rest tn i:=by rw [locGo,noted_no2 h]
theorem locGo_none {rest i:Nat} {tn k:Int} (hk:v[i]? = some k) (h:way nd l (req r k).node (T.weight s r (part v rest)) tn < 0):locGo nd l s r v rest tn (i + 1)=locGo nd l s r v rest tn i:=by
 have hw:=way_bd nd l (req r k).node (T.weight s r (part v rest)) tn
 rw [locGo,hk,Option.getD_some,noted_no1 (by omega)]
theorem locGo_less (hc:Case31 nd l s r v) {rest i:Nat} {tn k:Int} (hk:v[i]? = some k) (h1:0≤lab nd l s r v rest i) (h2:0≤way nd l (req r k).node (T.weight s r (part v rest)) tn) :
  locGo nd l s r v rest tn (i + 1)=lessV (locGo nd l s r v rest tn i) (lab nd l s r v rest i + way nd l (req r k).node (T.weight s r (part v rest)) tn):=by
 have hb:=locGo_bd hc rest tn i
 rw [locGo,hk,Option.getD_some]
 unfold noted lessV
 by_cases h:locGo nd l s r v rest tn i=-1∨lab nd l s r v rest i + way nd l (req r k).node (T.weight s r (part v rest)) tn < locGo nd l s r v rest tn i
 ·rw [if_pos ⟨by omega,by omega,h⟩,if_pos (by omega)]
 ·rw [if_neg (fun h9=>h h9.2.2),if_neg (by omega)]
end
end K
set_option maxHeartbeats 4000000 in
theorem less106_any (a b:Int) (w:World):Calls Tryz.prog 206 #[.int .i64 a,.int .i64 b] w fun e w'=>e=.returned (.int .i64 (K.lessV a b))∧w=w':=by
 by_cases h1:a < 0
 ·have c1:decide (a < 0)=true:=decide_eq_true h1
  have HX:=Lib.hid (show K.lessV a b=b by unfold K.lessV;rw [if_pos (.inl h1)])
  go_enter Tryz.func206,Tryz.ntmps206
  go_wp2_with fail
  go_ret
  exact ⟨by rw [HX.out];rfl,rfl⟩
 have c1:decide (a < 0)=false:=decide_eq_false h1
 by_cases h2:0≤b
 ·have c2:decide (0≤b)=true:=decide_eq_true h2
  by_cases h3:b < a
  ·have c3:decide (b < a)=true:=decide_eq_true h3
   have HX:=Lib.hid (show K.lessV a b=b by unfold K.lessV;rw [if_pos (.inr ⟨h2,h3⟩)])
   go_enter Tryz.func206,Tryz.ntmps206
   go_wp2_with fail
   go_ret
   exact ⟨by rw [HX.out];rfl,rfl⟩
  ·have c3:decide (b < a)=false:=decide_eq_false h3
   have HX:=Lib.hid (show K.lessV a b=a by unfold K.lessV;rw [if_neg (by omega)])
   go_enter Tryz.func206,Tryz.ntmps206
   go_wp2_with fail
   go_ret
   exact ⟨by rw [HX.out];rfl,rfl⟩
 ·have c2:decide (0≤b)=false:=decide_eq_false h2
  have HX:=Lib.hid (show K.lessV a b=a by unfold K.lessV;rw [if_neg (by omega)])
  go_enter Tryz.func206,Tryz.ntmps206
  go_wp2_with fail
  go_ret
  exact ⟨by rw [HX.out];rfl,rfl⟩
namespace K
theorem orders_stop:∀ (f:Nat) (l:List Int),(orders f l).length < f→orders (f + 1) l=orders f l
 | 0,_,h=>absurd h (by omega)
 | f + 1,l,h=>by
  rw [orders] at h
  rw [orders,orders]
  cases hn:nxt31 l with
  | none=>rfl
  | some l' =>
   rw [hn] at h
   dsimp only at h ⊢
   rw [List.length_cons] at h
   rw [orders_stop f l' (by omega)]
theorem orders_next {l l':List Int} (h:nxt31 l=some l') (hl:(orders 25 l).length≤24):orders 25 l=l :: orders 25 l'∧(orders 25 l').length < (orders 25 l).length:=by
 have h1:orders 25 l=l :: orders 24 l':=by
  show orders (24 + 1) l=_
  rw [orders,h]
 have h2:orders 25 l'=orders 24 l':=by
  refine orders_stop 24 l' ?_
  rw [h1,List.length_cons] at hl
  omega
 rw [h2,h1]
 exact ⟨rfl,by rw [List.length_cons];omega⟩
theorem orders_last {l:List Int} (h:nxt31 l=none):orders 25 l=[l]:=by
 show orders (24 + 1) l=_
 rw [orders,h]
theorem next_len {l l':List Int} (h:nxt31 l=some l'):l'.length=l.length:=by
 unfold nxt31 at h
 cases hi:nextI l (l.length - 1) with
 | none=>rw [hi] at h;cases h
 | some i =>
  rw [hi] at h
  injection h with h
  rw [←h]
  unfold turned
  rw [List.length_append,List.length_reverse,←List.length_append,List.take_append_drop,List.length_set,List.length_set]
theorem orders_few {nd:Int} {l:List Ro} {s:S} {r:List Q} {v:List Int} (hok:ok31 nd l s r v=true) (h4:v.length≤4):(orders 25 v).length≤24:=by
 rw [orders_v (set_sorted hok),List.length_map]
 exact orders_len_all ⟨v.length,by omega⟩
section
variable {nd : Int} {l : List Ro} {s : S} {r : List Q}
theorem pick_yes {o:List Int} {os:List (List Int)} {b:Option Tr} (h:(run nd l s r o).e=0) (h2:better b (run nd l s r o).tour.end_=true):pick nd l s r (o :: os) b=pick nd l s r os (some (run nd l s r o).tour):=by
 rw [pick,if_pos ⟨h,h2⟩]
theorem pick_no {o:List Int} {os:List (List Int)} {b:Option Tr} (h:¬ ((run nd l s r o).e=0∧better b (run nd l s r o).tour.end_=true)):pick nd l s r (o :: os) b=pick nd l s r os b:=by
 rw [pick,if_neg h]
end
end K
def readInts (w:World):Value→List Int
 | .slice (some ad) n _=>(List.range n).map fun j=>match w.cell? (ad.add j) with | some (.int _ x)=>x | _=>0
 | _=>[]
theorem readInts_ints {w:World} {A:Option Addr} {n c:Nat} {l:List Int} (h:Ints w A n l):readInts w (.slice A n c)=l:=by
 cases A with
 | none =>
  have h0:n=0:=by
   cases n with
   | zero=>rfl
   | succ n=>obtain ⟨ad,e,_⟩:=h.2.2 (by omega);cases e
  have:=h.1
  rw [h0] at this
  rw [List.length_eq_zero_iff.1 this.symm]
  rfl
 | some ad =>
  apply List.ext_getElem?
  intro k
  unfold readInts
  rw [List.getElem?_map]
  by_cases hk:k < n
  ·obtain ⟨ad',x,e,hx,hc⟩:=h.at_ hk
   injection e with e
   subst e
   rw [List.getElem?_range hk,hx,Option.map_some,hc]
  ·rw [List.getElem?_eq_none (by simpa using hk),List.getElem?_eq_none (by rw [←h.1];omega)]
   rfl
def leftOf (w:World) (v m:Value):Nat:=match m with
 | .bool true=>(K.orders 25 (readInts w v)).length + 1
 | _=>0
theorem leftOf_no (w:World) (v:Value):leftOf w v (.bool false)=0:=rfl
theorem leftOf_yes {w:World} {A:Option Addr} {n c:Nat} {l:List Int} (h:Ints w A n l):leftOf w (.slice A n c) (.bool true)=(K.orders 25 l).length + 1:=by
 unfold leftOf
 rw [readInts_ints h]
def OI (w:World) (ad:Addr) (n c:Nat) (l:List Int):Prop :=
 n=l.length∧n≤c∧∃ g cur,ad=⟨g,0,none⟩∧w.heap[g]? = some (.cells cur 3 (0,0))∧cur.toList.take n=intCells l
theorem OI.ints {w:World} {ad:Addr} {n c:Nat} {l:List Int} (h:OI w ad n c l):Ints w (some ad) n l:=by
 obtain ⟨h1,h2,g,cur,rfl,h3,h4⟩:=h
 refine ⟨h1,by simp [intCells,h1],fun _=>⟨_,rfl,fun j u hu=>?_⟩⟩
 rw [add_zero_block,cell_of_row w g j cur 3 (0,0) h3]
 rw [←h4,List.getElem?_take] at hu
 split at hu
 ·simpa using hu
 ·cases hu
theorem OI.cell {w:World} {ad:Addr} {n c k:Nat} {l:List Int} {x:Int} (h:OI w ad n c l) (hk:l[k]? = some x):w.cell? (ad.add k)=some (.int .i64 x):=by
 obtain ⟨ad',y,e,hy,hc⟩:=h.ints.at_ (k:=k) (by rw [h.1];exact (List.getElem?_eq_some_iff.1 hk).1)
 injection e with e
 subst e
 rw [hk] at hy
 injection hy with hy
 rw [hy];exact hc
theorem OI.free {w:World} {ad:Addr} {n c:Nat} {l:List Int} (h:OI w ad n c l) (k:Nat):w.frozen? (ad.add k)=false:=by
 obtain ⟨h1,h2,g,cur,rfl,h3,h4⟩:=h
 rw [add_zero_block]
 exact blk_free h3 k
theorem OI.set {w:World} {ad:Addr} {n c:Nat} {l:List Int} (h:OI w ad n c l) (k:Nat) (x:Int):OI (w.setCell (ad.add k) (.int .i64 x)) ad n c (l.set k x):=by
 obtain ⟨h1,h2,g,cur,rfl,h3,h4⟩:=h
 refine ⟨by rw [List.length_set];exact h1,h2,g,_,rfl,by rw [add_zero_block];exact blk_set h3 k _,?_⟩
 rw [Array.toList_setIfInBounds,List.take_set,h4]
 simp [intCells,List.map_set]
theorem OI.below {w w':World} {ad:Addr} {n c:Nat} {l:List Int} (h:OI w ad n c l) (hb:Below w.heap.size w w'):OI w' ad n c l:=by
 obtain ⟨h1,h2,g,cur,e,h3,h4⟩:=h
 exact ⟨h1,h2,g,cur,e,blk_below hb h3,h4⟩
theorem OI.grown {w w':World} {r:Option Nat} {ad:Addr} {n c:Nat} {l:List Int} (h:OI w ad n c l) (hg:w.grownBy w' r) (hne:some ad.block ≠ r):OI w' ad n c l:=by
 obtain ⟨h1,h2,g,cur,rfl,h3,h4⟩:=h
 exact ⟨h1,h2,g,cur,rfl,(hg.block g (Array.getElem?_eq_some_iff.1 h3).1 hne).trans h3,h4⟩
theorem OI.lt {w:World} {ad:Addr} {n c:Nat} {l:List Int} (h:OI w ad n c l):ad.block < w.heap.size:=by
 obtain ⟨h1,h2,g,cur,rfl,h3,h4⟩:=h
 exact (Array.getElem?_eq_some_iff.1 h3).1
theorem Ints.put {w:World} {A:Option Addr} {n m c k:Nat} {l o:List Int} {ad:Addr} (h:Ints w A n l) (u:Value) (hO:OI w ad m c o) (hA:∀ ad',A=some ad'→ad'.block ≠ ad.block):Ints (w.setCell (ad.add k) u) A n l:=by
 obtain ⟨h1,h2,g,cur,rfl,h3,h4⟩:=hO
 rw [add_zero_block]
 exact h.set u hA
theorem own_oi {w:World} {base:Nat} {v:Value} {n:Nat} {l:List Int} (h:w.ownsRow base 3 1 v n (intCells l)) (hn:n=l.length) :
  ∃ A c,v=.slice A n c∧Ints w A n l∧n≤c∧(0 < n→∃ ad,A=some ad∧OI w ad n c l∧base≤ad.block):=by
 obtain ⟨A,c,e,hI⟩:=own_ints h hn
 obtain ⟨hl,⟨rfl,rfl⟩ | ⟨g,cap,cur,rfl,hb,hh,hnc,_,hsz,ht⟩⟩:=h
 ·exact ⟨A,c,e,hI,Nat.zero_le _,fun h0=>absurd h0 (by omega)⟩
 ·injection e with e1 e2 e3
  subst e1 e3
  refine ⟨_,_,rfl,hI,hnc,fun h0=>?_⟩
  exact ⟨_,rfl,⟨hn,hnc,g,cur,rfl,hh,by rw [←ht,Nat.mul_one]⟩,hb⟩
namespace K
def Seeks (v:List Int) (z:Int):Prop:=(z < 0∧nextI v (v.length - 1)=none)∨∃ p:Nat,z=p∧p + 1 < v.length∧nextI v (v.length - 1)=nextI v (p + 1)
theorem seeks_of {v:List Int}:∀ (j:Nat),j < v.length→nextI v (v.length - 1)=nextI v j→Seeks v ((j:Int) - 1)
 | 0,_,h=>.inl ⟨by omega,h⟩
 | j + 1,h1,h=>.inr ⟨j,by omega,h1,h⟩
theorem seeks_start (v:List Int):Seeks v ((v.length:Int) - 2):=by
 rcases Nat.eq_zero_or_pos v.length with h | h
 ·exact .inl ⟨by omega,by rw [h];rfl⟩
 ·have:=seeks_of (v:=v) (v.length - 1) (by omega) rfl
  rwa [show (((v.length - 1:Nat):Int) - 1)=(v.length:Int) - 2 by omega] at this
theorem nextI_step {v:List Int} {p:Nat} {x y:Int} (h1:v[p]? = some x) (h2:v[p + 1]? = some y):nextI v (p + 1)=if y < x then nextI v p else some p:=by
 rw [nextI,h1,h2];rfl
theorem nextK_step {v:List Int} {x y:Int} {k:Nat} (h:v[k]? = some y):nextK v x (k + 1)=if y < x then nextK v x k else k:=by
 rw [nextK,h];rfl
def half (D:List Int) (j:Nat):List Int:=D.reverse.take j ++ D.drop j
theorem half_zero (D:List Int):half D 0=D:=by simp [half]
theorem half_full (D:List Int):half D D.length=D.reverse:=by unfold half;rw [List.take_of_length_le (by simp),List.drop_eq_nil_of_le (Nat.le_refl _),List.append_nil]
theorem half_next {P D:List Int} {j:Nat} {x:Int} (h:D[D.length - 1 - j]? = some x) (hj:j < D.length):(P ++ half D j).set (P.length + j) x=P ++ half D (j + 1):=by
 have hr:D.reverse[j]? = some x:=by rw [List.getElem?_reverse hj];exact h
 rw [List.set_append_right _ _ (by omega),show P.length + j - P.length=j by omega]
 congr 1
 unfold half
 have hl:(D.reverse.take j).length=j:=by simp;omega
 rw [List.set_append_right _ _ (by omega),take_snoc hr,List.drop_eq_getElem_cons hj,hl,Nat.sub_self,List.set_cons_zero,List.append_assoc]
 rfl
end K
def RetNext31 (w w':World) (o:Option (List Int)) (e:Ending):Prop :=
 ((o=none∧e=.returned (.tuple #[.slice none 0 0,.bool false]))∨(∃ l A n c,o=some l∧n≤c∧e=.returned (.tuple #[.slice A n c,.bool true])∧Ints w' A n l∧∀ ad,A=some ad→w.heap.size≤ad.block))∧Below w.heap.size w w'
set_option maxRecDepth 100000 in
set_option maxHeartbeats 16000000 in
theorem next_any (V:Option Addr) (vn vc:Nat) (v:List Int) (w:World) (hV:Ints w V vn v) (hn:vn≤1000000000) :
  Calls Tryz.prog 132 #[.slice V vn vc] w fun e w'=>RetNext31 w w' (K.nxt31 v) e:=by
 obtain ⟨i0,hi,hz0,hz1,hz2⟩:=info_parts Tryz.info3
 have hlit:(w.alloc (.cells #[] 3)).ownsRow w.heap.size 3 1 (.slice (some ⟨w.heap.size,0,none⟩) 0 0) 0 []:=own_lit (heap_alloc_new w (.cells #[] 3)) (Nat.le_refl _)
 have ba:Below w.heap.size w (w.alloc (.cells #[] 3)):=(Below.refl _ _).alloc (Nat.le_refl _) _
 have HLN:=Lib.hid hV.1
 obtain ⟨z0,hz⟩:∃ z0,z0=(vn:Int) - 2:=⟨_,rfl⟩
 have HSK:=Lib.hid (show K.Seeks v z0 by have h:=K.seeks_start v;rw [←HLN.out,←hz] at h;exact h)
 have kz:IntKind.i64.wrap ((vn:Int) - 2)=z0:=by rw [IntWalk.i64_in _ (by omega)];omega
 have hz1':z0 < (vn:Int):=by omega
 clear hz
 go_enter Tryz.func132,Tryz.ntmps132
 go_wp2_with (at_builtin;refine wp_append_rd rfl (.tmp 10) (.tmp 11) 48 rfl w.heap.size 3 i0 (.int .i64 0) 1 8 Tryz.underlying48 hi hz0 hz1 hz2 rfl (by decide) (.slice (some ⟨w.heap.size,0,none⟩) 0 0) 0 [] rfl hlit V vn vc (intCells v) rfl (hV.below ba).2 (intCells_one v) (by simp only [maxLen];omega) (by omega) (by first | (simp;done) | (simp;omega)) ?_;intro v' w1 hown1 hgrow1 hat1;rw [Nat.zero_add,List.nil_append] at hown1;obtain ⟨A,c,rfl,hI,-,hO⟩:=own_oi hown1 HLN.out;have hb1:Below w.heap.size w w1:=below_own2 ba hgrow1 (lit_block (Nat.le_refl _));clear hown1 hgrow1 hat1 hlit ba)
 go_loopw [5] (fun v5 wr=>∃ z:Int,v5=.int .i64 z∧z < vn∧Hid (K.Seeks v z)∧Below w1.heap.size w1 wr) (fun v5 _=>(intOf v5 + 1).toNat)
 case atStart=>exact ⟨z0,rfl,hz1',HSK.out,Below.refl _ _⟩
 case round =>
  clear kz
  obtain ⟨z,rfl,hzn,hsk,hbr⟩:=hrel
  rcases hsk.out with ⟨hneg,hnone⟩ | ⟨p,hp,hp1,hseek⟩
  ·have c1:decide (0≤z)=false:=by simp;omega
   have c2:decide (z < 0)=true:=by simp;omega
   have HNX:=Lib.hid (show K.nxt31 v=none by unfold K.nxt31;rw [hnone])
   clear hsk hnone
   go_wp2_with fail
   go_quiet (fail)
   go_wp2_with fail
   go_ret2
   exact ⟨.inl ⟨HNX.out,rfl⟩,below_drewN (bel hb1 hbr) _⟩
  ·subst hp
   rw [←HLN.out] at hp1 hseek
   obtain ⟨ad,rfl,hOI,hbase⟩:=hO (by omega)
   clear hO
   obtain ⟨q,hq⟩:∃ q:Nat,q=p + 1:=⟨_,rfl⟩
   have hpl:p < vn:=by omega
   have hql:q < vn:=by omega
   have HOI:=Lib.hid hOI
   obtain ⟨ad1,x,ea,hx,cp⟩:=(hI.below hbr).at_ hpl
   injection ea with ea
   subst ea
   obtain ⟨ad1,y,ea,hy,cq⟩:=(hI.below hbr).at_ hql
   injection ea with ea
   subst ea
   have hst:=K.nextI_step hx (by rw [←hq];exact hy)
   have k1:decide ((0:Int)≤(p:Int))=true:=by simp
   have k2:decide ((p:Int) < 0)=false:=by simp
   have k3:IntKind.i64.wrap ((p:Int) + 1)=(q:Int):=by rw [IntWalk.i64_in _ (by omega)];omega
   have k4:(0:Int)≤(p:Int):=by omega
   have k5:(p:Int) < (vn:Int):=by omega
   have k6:(0:Int)≤(q:Int):=by omega
   have k7:(q:Int) < (vn:Int):=by omega
   have HX:=Lib.hid hx
   have HSE:=Lib.hid hseek
   have HQ:=Lib.hid hq
   clear hx hy hseek hsk hq hOI hp1
   by_cases hlt:y < x
   ·have c1:decide (y < x)=true:=decide_eq_true hlt
    obtain ⟨zz,hzz⟩:∃ zz,zz=(p:Int) - 1:=⟨_,rfl⟩
    have k8:IntKind.i64.wrap ((p:Int) - 1)=zz:=by rw [IntWalk.i64_in _ (by omega)];omega
    have HN:=Lib.hid (show K.Seeks v zz by rw [hzz];exact K.seeks_of p (by rw [←HLN.out];exact hpl) (by rw [←HLN.out,HSE.out,hst,if_pos hlt]))
    have hzv:zz < (vn:Int):=by omega
    have hmz:(zz + 1).toNat < ((p:Int) + 1).toNat:=by omega
    clear hst hzz
    go_wp2_with fail
    go_quiet (fail)
    go_wp2_with fail
    go_roundw
    case rel=>exact ⟨zz,rfl,hzv,HN.out,below_drewN hbr _⟩
    case measure=>exact hmz
   ·have c1:decide (y < x)=false:=decide_eq_false hlt
    have HI:=Lib.hid (show K.nextI v (v.length - 1)=some p by rw [←HLN.out,HSE.out,hst,if_neg hlt])
    have HXY:=Lib.hid hlt
    clear hst hlt
    obtain ⟨k0,hk0⟩:∃ k0:Nat,k0=vn - 1:=⟨_,rfl⟩
    have k8:IntKind.i64.wrap ((vn:Int) - 1)=(k0:Int):=by rw [IntWalk.i64_in _ (by omega)];omega
    have hk1:k0 + 1=vn:=by omega
    have HK1:=Lib.hid hk1
    have hk2:k0 < vn:=by omega
    have hk3:p≤k0:=by omega
    clear hk0 hk1
    go_wp2_with fail
    go_quiet (fail)
    obtain ⟨w2,hnew⟩:∃ w2:World,w2=wr.drewN nq:=⟨_,rfl⟩
    rw [←hnew]
    have hb2:Below w1.heap.size w1 w2:=by rw [hnew];exact below_drewN hbr _
    clear hnew hbr cp cq k1 c1
    go_wp2_with fail
    clear k2 k8
    go_loopw [6] (fun v6 ws=>∃ k:Nat,v6=.int .i64 k∧p≤k∧k < vn∧Hid (K.nextK v x vn=K.nextK v x (k + 1))∧Below w2.heap.size w2 ws) (fun v6 _=>(intOf v6).toNat)
    case atStart=>exact ⟨k0,rfl,hk3,hk2,by rw [HK1.out];exact rfl,Below.refl _ _⟩
    case round =>
     clear hk2 hk3
     obtain ⟨k,rfl,hpk,hkn,hnk,hbs⟩:=hrel
     have hb2s:=bel hb2 hbs
     obtain ⟨ad1,u,ea,hu,cu⟩:=(hI.below hb2s).at_ hkn
     injection ea with ea
     subst ea
     obtain ⟨ad1,x1,ea,hx1,cp⟩:=(hI.below hb2s).at_ hpl
     rw [HX.out] at hx1
     injection hx1 with hx1
     subst hx1
     injection ea with ea
     subst ea
     have hst:=K.nextK_step (x:=x) hu
     have j1:(0:Int)≤(k:Int):=by omega
     have j2:(k:Int) < (vn:Int):=by omega
     by_cases hux:u < x
     ·have c1:decide (u < x)=true:=decide_eq_true hux
      have hne:k ≠ p:=by
       intro e
       rw [e,HX.out] at hu
       injection hu with hu
       omega
      obtain ⟨kk,hkk⟩:∃ kk:Nat,k=kk + 1:=⟨k - 1,by omega⟩
      have j3:IntKind.i64.wrap ((k:Int) - 1)=(kk:Int):=by rw [IntWalk.i64_in _ (by omega)];omega
      have HN:=Lib.hid (show K.nextK v x vn=K.nextK v x (kk + 1) by rw [hnk.out,hst,if_pos hux,hkk])
      have g1:p≤kk:=by omega
      have g2:kk < vn:=by omega
      have g3:kk < k:=by omega
      clear hu hnk hst hkk hne
      go_wp2_with fail
      go_quiet (fail)
      go_wp2_with fail
      go_roundw
      case rel=>exact ⟨kk,rfl,g1,g2,HN.out,below_drewN hbs _⟩
      case measure=>simp [intOf];exact g3
     ·have c1:decide (u < x)=false:=decide_eq_false hux
      have HNK:=Lib.hid (show K.nextK v x vn=k by rw [hnk.out,hst,if_neg hux])
      have HU:=Lib.hid hu
      clear hnk hst hu hux
      go_wp2_with fail
      go_quiet (fail)
      obtain ⟨w3,hnew⟩:∃ w3:World,w3=wr.drewN nq:=⟨_,rfl⟩
      rw [←hnew]
      have hb3:Below w1.heap.size w1 w3:=by rw [hnew];exact below_drewN hb2s _
      clear hnew hbs hb2s cu cp c1
      have O3:=HOI.out.below hb3
      have cp:=O3.cell HX.out
      have cu:=O3.cell HU.out
      have fp:=O3.free p
      obtain ⟨w4,hw4⟩:∃ w4:World,w4=w3.setCell (ad.add p) (.int .i64 u):=⟨_,rfl⟩
      have O4:OI w4 ad vn c (v.set p u):=by rw [hw4];exact O3.set p u
      obtain ⟨u4,hu4⟩:∃ u4,(v.set p u)[k]? = some u4:=⟨_,List.getElem?_eq_getElem (by rw [List.length_set,←HLN.out];exact hkn)⟩
      have cu4:=O4.cell hu4
      have fu4:=O4.free k
      obtain ⟨w5,hw5⟩:∃ w5:World,w5=w4.setCell (ad.add k) (.int .i64 x):=⟨_,rfl⟩
      obtain ⟨S,hS⟩:∃ S,S=(v.set p u).set k x:=⟨_,rfl⟩
      have O5:OI w5 ad vn c S:=by rw [hw5,hS];exact O4.set k x
      have z5:w5.heap.size=w3.heap.size:=by rw [hw5,hw4];simp
      have hb5:Below w.heap.size w w5:=by
       rw [hw5,hw4]
       exact ((bel hb1 hb3).setCell (by rw [add_block];exact hbase) _).setCell (by rw [add_block];exact hbase) _
      have hSl:S.length=vn:=by rw [hS,List.length_set,List.length_set,HLN.out]
      have HT:=Lib.hid (show K.nxt31 v=some (S.take q ++ (S.drop q).reverse) by
       unfold K.nxt31
       rw [HI.out]
       show some (K.turned v p (K.nextK v ((v[p]?).getD 0) v.length))=_
       rw [HX.out,Option.getD_some,←HLN.out,HNK.out]
       unfold K.turned
       rw [HX.out,HU.out,Option.getD_some,Option.getD_some,←hS,HQ.out])
      have hblk5:=O5.lt
      have hlit5:(w5.alloc (.cells #[] 3)).ownsRow w5.heap.size 3 1 (.slice (some ⟨w5.heap.size,0,none⟩) 0 0) 0 []:=own_lit (heap_alloc_new w5 (.cells #[] 3)) (Nat.le_refl _)
      have ba5:Below w5.heap.size w5 (w5.alloc (.cells #[] 3)):=(Below.refl _ _).alloc (Nat.le_refl _) _
      have hID:=(Ints.drop (O5.ints) rfl (k:=q) (by omega)).below ba5
      obtain ⟨mm,hmm⟩:∃ mm:Nat,mm=vn - q:=⟨_,rfl⟩
      have hqc:q≤c:=by have:=O5.2.1;omega
      have hnc:vn≤c:=O5.2.1
      have k8:(q:Int)≤(vn:Int):=by omega
      have k9:(vn:Int)≤(c:Int):=by omega
      have hmq:q + mm=vn:=by omega
      have HMQ:=Lib.hid hmq
      have hDl:mm=(S.drop q).length:=by rw [List.length_drop,hSl];omega
      have HDL:=Lib.hid hDl
      have HSL:=Lib.hid hSl
      have hmm1:mm≤1000000000:=by omega
      clear hDl hSl hmq
      rw [hw4] at cu4 fu4
      go_upto_region 13 with fail
      rw [←hw4,←hw5]
      clear hw4 hw5 cu4 fu4 cp cu fp O3 O4 z5
      go_wp2_with (at_builtin;refine wp_append_rd rfl (.tmp 64) (.tmp 68) 48 rfl w5.heap.size 3 i0 (.int .i64 0) 1 8 Tryz.underlying48 hi hz0 hz1 hz2 rfl (by decide) (.slice (some ⟨w5.heap.size,0,none⟩) 0 0) 0 [] rfl hlit5 (some (ad.add q)) (vn - q) _ (intCells (S.drop q)) rfl hID.2 (intCells_one _) (by simp only [maxLen];omega) (by omega) (by first | (simp;done) | (simp;omega)) ?_;intro v' w6 hown6 hgrow6 hat6;rw [Nat.zero_add,List.nil_append,←hmm] at hown6;obtain ⟨R,rc,rfl,hR⟩:=own_ints hown6 HDL.out;have hRb:=(fun ad' (e:R=some ad')=>(hown6.lt ad'.block (by rw [e];rfl)).1);have hb6:Below w5.heap.size w5 w6:=below_own2 ba5 hgrow6 (lit_block (Nat.le_refl _));have O6:=O5.below hb6;have hbw6:=bel hb5 hb6;clear hown6 hgrow6 hat6 hlit5 ba5 hID k8 k9;try (rw [←hmm]);clear hmm)
      go_loopw [9] (fun v9 ws=>∃ j:Nat,v9=.int .i64 j∧j≤mm∧OI ws ad vn c (S.take q ++ K.half (S.drop q) j)∧Ints ws R mm (S.drop q)∧Below w.heap.size w ws) (fun v9 _=>mm - (intOf v9).toNat)
      case atStart=>exact ⟨0,rfl,by omega,by rw [K.half_zero,List.take_append_drop];exact O6,hR,hbw6⟩
      case round =>
       clear O6 hR hbw6 hb6
       obtain ⟨j,rfl,hj,hOj,hRj,hbj⟩:=hrel
       by_cases hlt:j < mm
       ·obtain ⟨zz,hzz⟩:∃ zz:Nat,zz=q + j:=⟨_,rfl⟩
        obtain ⟨m1,hm1⟩:∃ m1:Nat,mm=m1 + 1:=⟨mm - 1,by omega⟩
        obtain ⟨yy,hyy⟩:∃ yy:Nat,yy=m1 - j:=⟨_,rfl⟩
        have hmq:=HMQ.out
        have hym:yy < mm:=by omega
        have hzv:zz < vn:=by omega
        obtain ⟨adr,e,hAR,he,ce⟩:=hRj.at_ hym
        obtain ⟨old,hold⟩:∃ old,(S.take q ++ K.half (S.drop q) j)[zz]? = some old:=⟨_,List.getElem?_eq_getElem (by rw [←hOj.1];exact hzv)⟩
        have cz:=hOj.cell hold
        have fz:=hOj.free zz
        have hPl:(S.take q).length=q:=by rw [List.length_take,HSL.out];omega
        have HNX:(S.take q ++ K.half (S.drop q) j).set zz e=S.take q ++ K.half (S.drop q) (j + 1):=by
         rw [hzz]
         have h:=K.half_next (P:=S.take q) (D:=S.drop q) (j:=j) (x:=e) (by rw [←HDL.out,hm1,show m1 + 1 - 1 - j=yy by omega];exact he) (by rw [←HDL.out];exact hlt)
         rwa [hPl] at h
        have hOn:=hOj.set zz e
        rw [HNX] at hOn
        have hRn:=hRj.put (.int .i64 e) (k:=zz) hOj (fun ad' e'=>by have:=hRb ad' e';omega)
        have hbn:Below w.heap.size w (wr.setCell (ad.add zz) (.int .i64 e)):=hbj.setCell (by rw [add_block];exact hbase) _
        have j1:IntKind.i64.wrap ((q:Int) + (j:Int))=(zz:Int):=by rw [IntWalk.i64_in _ (by omega)];omega
        have j2:IntKind.i64.wrap ((mm:Int) - 1)=(m1:Int):=by rw [IntWalk.i64_in _ (by omega)];omega
        have j3:IntKind.i64.wrap ((m1:Int) - (j:Int))=(yy:Int):=by rw [IntWalk.i64_in _ (by omega)];omega
        have j4:(0:Int)≤(yy:Int):=by omega
        have j5:(yy:Int) < (mm:Int):=by omega
        have j6:(0:Int)≤(zz:Int):=by omega
        have j7:(zz:Int) < (vn:Int):=by omega
        subst hAR
        clear hold hPl HNX he hzz hm1 hyy hym hzv hmq
        go_wp2_with fail
        go_roundw
        case rel=>exact ⟨j + 1,by go_num,hlt,hOn,hRn,hbn⟩
        case measure=>simp [intOf];omega
       ·have HE:=Lib.hid (show S.take q ++ K.half (S.drop q) j=S.take q ++ (S.drop q).reverse by rw [show j=mm by omega,HDL.out,K.half_full])
        go_wp2_with fail
        go_ret2
        exact ⟨.inr ⟨_,some ad,vn,c,HT.out,hnc,rfl,by rw [←HE.out];exact hOj.ints,fun ad' e=>by injection e with e;rw [←e];exact hbase⟩,hbj⟩
theorem way_read {nd:Int} {l:List Ro} {a k:Int} {tg:Nat} {w:World} {A:Option Addr} {n:Nat} (hI:Ints w A n (K.times nd l a k)) (hne:K.netErr nd l=0) (ha:0≤a∧a < nd) (htg:(tg:Int) < nd) :
  ∃ ad,A=some ad∧w.cell? (ad.add tg)=some (.int .i64 (K.way nd l a k (tg:Int)))∧(tg:Int) < (n:Int):=by
 have hn:n=nd.toNat:=by rw [hI.1];exact K.times_len hne ha
 have hdt:tg < n:=by omega
 obtain ⟨ad,y,rfl,hy,cy⟩:=hI.at_ hdt
 refine ⟨ad,rfl,?_,by omega⟩
 rw [cy]
 unfold K.way G.at_
 rw [Int.toNat_natCast,hy]
 rfl
set_option maxRecDepth 100000 in
set_option maxHeartbeats 16000000 in
theorem arrival_any (x:C) (V:Option Addr) (vn vc:Nat) (v:List Int) (A:Option Addr) (tn tc:Nat) (ts:List Int) (m tg:Nat) (w:World) (hok:K.ok31 x.nd x.l x.s x.r v=true) (hx:At w x) (hV:Ints w V vn v) (hT:Ints w A tn ts)
  (hts:∀ i,i < vn→∃ y,ts[m * 6 + i]? = some y∧(m.testBit i=true→y=K.lab x.nd x.l x.s x.r v m i)) (hm:m < 64) (hto:(tg:Int) < x.nd) :
  Calls Tryz.prog 184 #[.agg #[.int .i64 x.nd,.slice x.A x.n x.c],.agg #[.int .i64 x.s.day,.int .i64 x.s.depot,.int .i64 x.s.start,.int .i64 x.s.end_,.int .i64 x.s.tare,.slice x.s.A x.s.n x.s.c],.slice x.B x.m x.d,.slice V vn vc,.slice A tn tc,.int .i64 m,.int .i64 tg] w fun e w'=>e=.returned (.int .i64 (K.locF x.nd x.l x.s x.r v m tg))∧Below w.heap.size w w':=by
 obtain ⟨w1,hw1⟩:∃ w1:World,w1=w.alloc (.cells #[.int .i64 x.nd,.slice x.A x.n x.c] 24):=⟨_,rfl⟩
 obtain ⟨w2,hw2⟩:∃ w2:World,w2=w1.alloc (.cells #[.int .i64 x.s.day,.int .i64 x.s.depot,.int .i64 x.s.start,.int .i64 x.s.end_,.int .i64 x.s.tare,.slice x.s.A x.s.n x.s.c] 63):=⟨_,rfl⟩
 have z1:w1.heap.size=w.heap.size + 1:=by rw [hw1];exact World.size_alloc _ _
 have b01:Below w.heap.size w w1:=by rw [hw1];exact (Below.refl _ _).alloc (Nat.le_refl _) _
 have b12:Below w1.heap.size w1 w2:=by rw [hw2];exact (Below.refl _ _).alloc (Nat.le_refl _) _
 have hP:Net w2 w.heap.size x.nd x.A x.n x.c:=by
  have h1:Net w1 w.heap.size x.nd x.A x.n x.c:=by rw [hw1];exact Net.new _ _ _ _ _
  exact h1.below b12
 have hS:Shf w2 (w.heap.size + 1) x.s:=by rw [←z1,hw2];exact Shf.new _ _
 have hb:=bel b01 b12
 have HOK:=Lib.hid hok
 have HC:=Lib.hid (K.case31 hok)
 have HVN:=Lib.hid hV.1
 have hv6:vn≤6:=by rw [hV.1];exact (K.ok31_parts hok).2.2.2.2.1
 obtain ⟨hne,hck,hdp,-,-,-⟩:=K.ok31_parts hok
 obtain ⟨-,⟨d0,-⟩,st0,st1,en1⟩:=K.check_parts hck
 have HNE:=Lib.hid hne
 have HTS:=Lib.hid hts
 clear hne hck hok hts
 go_enter Tryz.func184,Tryz.ntmps184
 go_wp2_with fail
 rw [←hw1,←hw2]
 clear hw1 hw2 z1 b01 b12
 have hmk:∀ w',Below w2.heap.size w2 w'→(fun w':World=>Below w2.heap.size w2 w'∧w'.cell? ⟨w.heap.size + 1,0,none⟩=some (.int .i64 x.s.day)∧w'.cell? ⟨w.heap.size + 1,1,none⟩=some (.int .i64 x.s.depot)∧w'.cell? ⟨w.heap.size + 1,2,none⟩=some (.int .i64 x.s.start)∧w'.cell? ⟨w.heap.size + 1,3,none⟩=some (.int .i64 x.s.end_)∧w'.cell? ⟨w.heap.size + 1,4,none⟩=some (.int .i64 x.s.tare)∧w'.cell? ⟨w.heap.size + 1,5,none⟩=some (.slice x.s.A x.s.n x.s.c)) w':=fun w' h=>⟨h,(hS.below h).cells⟩
 have S0:=hmk _ (Below.refl _ _)
 have hSd:∀ w',(fun w':World=>Below w2.heap.size w2 w'∧w'.cell? ⟨w.heap.size + 1,0,none⟩=some (.int .i64 x.s.day)∧w'.cell? ⟨w.heap.size + 1,1,none⟩=some (.int .i64 x.s.depot)∧w'.cell? ⟨w.heap.size + 1,2,none⟩=some (.int .i64 x.s.start)∧w'.cell? ⟨w.heap.size + 1,3,none⟩=some (.int .i64 x.s.end_)∧w'.cell? ⟨w.heap.size + 1,4,none⟩=some (.int .i64 x.s.tare)∧w'.cell? ⟨w.heap.size + 1,5,none⟩=some (.slice x.s.A x.s.n x.s.c)) w'→(fun w':World=>Below w2.heap.size w2 w'∧w'.cell? ⟨w.heap.size + 1,0,none⟩=some (.int .i64 x.s.day)∧w'.cell? ⟨w.heap.size + 1,1,none⟩=some (.int .i64 x.s.depot)∧w'.cell? ⟨w.heap.size + 1,2,none⟩=some (.int .i64 x.s.start)∧w'.cell? ⟨w.heap.size + 1,3,none⟩=some (.int .i64 x.s.end_)∧w'.cell? ⟨w.heap.size + 1,4,none⟩=some (.int .i64 x.s.tare)∧w'.cell? ⟨w.heap.size + 1,5,none⟩=some (.slice x.s.A x.s.n x.s.c)) w'.drew:=fun w' h=>hmk _ h.1.drew
 have hVx:∀ w',Below w2.heap.size w2 w'→Ints w' V vn v:=fun w' h=>(hV.below hb).below h
 have hAr:∀ w',Below w2.heap.size w2 w'→Ints w' x.s.A x.s.n x.s.l:=fun w' h=>((hx.below hb).below h).rooms
 have hAq:∀ w',Below w2.heap.size w2 w'→Reqs w' x.B x.m x.r:=fun w' h=>((hx.below hb).below h).reqs
 have hr256:m < 256:=by omega
 have hv8:vn≤8:=by omega
 have hpl:(K.part v m).length≤1000000000:=by have h1:=K.part_len v m;rw [←HVN.out] at h1;omega
 go_region_held3 (fun w':World=>Below w2.heap.size w2 w'∧w'.cell? ⟨w.heap.size + 1,0,none⟩=some (.int .i64 x.s.day)∧w'.cell? ⟨w.heap.size + 1,1,none⟩=some (.int .i64 x.s.depot)∧w'.cell? ⟨w.heap.size + 1,2,none⟩=some (.int .i64 x.s.start)∧w'.cell? ⟨w.heap.size + 1,3,none⟩=some (.int .i64 x.s.end_)∧w'.cell? ⟨w.heap.size + 1,4,none⟩=some (.int .i64 x.s.tare)∧w'.cell? ⟨w.heap.size + 1,5,none⟩=some (.slice x.s.A x.s.n x.s.c))
  (first | assumption | exact S0 | exact hSd _ (by assumption))
  (first
   | (go_at_call 183;refine (part31_any V vn vc v m _ (hVx _ (And.left (by assumption))) hv8 hr256).mono ?_;rintro e wb ⟨⟨RA,rn,rc,rfl,hR⟩,bb⟩;have S1:=hmk _ (bel (And.left (by assumption)) bb);have hrn:rn≤1000000000:=by (rw [hR.1];exact hpl))
   | (go_at_call 146;refine (rweight_any x.s x.B x.m x.d x.r RA rn rc (K.part v m) _ (hAr _ S1.1) hx.b2 (hAq _ S1.1) hx.b3 hx.b4 hR hrn).mono ?_;rintro e wc ⟨rfl,bc⟩;have S2:=hmk _ (bel S1.1 bc))
   | fail)
 obtain ⟨wt,hwt⟩:∃ wt,wt=T.weight x.s x.r (K.part v m):=⟨_,rfl⟩
 rw [←hwt]
 have HWT:=Lib.hid hwt
 have b2c:=S2.1
 have hP:=hP.below b2c
 have hS:=hS.below b2c
 have hb:=bel hb b2c
 clear S0 S1 S2 hSd hmk hVx hAr hAq hR hrn hpl hwt bb bc b2c hr256 hv8
 have p0:=hP.c0
 have p1:=hP.c1
 obtain ⟨s0,s1,s2,s3,s4,s5⟩:=hS.cells
 have k3:(0:Int)≤(tg:Int):=by omega
 by_cases hm0:m=0
 ·subst hm0
  have hF:=K.locF_zero (nd:=x.nd) (l:=x.l) (s:=x.s) (r:=x.r) (v:=v) (tg:Int)
  rw [←HWT.out] at hF
  go_wp2_with fail
  refine (rtimes_any x.nd x.A x.n x.c x.l x.s.depot wt _ (hx.below hb).net hx.b1).mono ?_
  rintro e wy ⟨⟨TA,yn,yc,rfl,hTI⟩,bwy⟩
  obtain ⟨y,hway⟩:∃ y,y=K.way x.nd x.l x.s.depot wt (tg:Int):=⟨_,rfl⟩
  obtain ⟨ady,rfl,cy,j4⟩:=way_read hTI HNE.out ⟨d0,hdp⟩ hto
  have hyb:=K.way_bd x.nd x.l x.s.depot wt (tg:Int)
  rw [←hway] at hyb hF cy
  have s2:=((hS.below bwy).cells).2.2.1
  clear hway hTI p0 p1 s0 s1 s3 s4 s5
  have hsm:IntKind.i64.wrap (x.s.start + y)=x.s.start + y:=IntWalk.i64_in _ (by omega)
  have hsm2:wrap64 (x.s.start + y)=x.s.start + y:=by rw [←IntWalk.i64_left];exact hsm
  by_cases hy0:y < 0
  ·have c1:decide (y < 0)=true:=decide_eq_true hy0
   rw [if_pos hy0] at hF
   have HF:=Lib.hid hF
   clear hF
   go_wp2_with fail
   go_ret
   exact ⟨by rw [HF.out];rfl,bel hb bwy⟩
  ·have c1:decide (y < 0)=false:=decide_eq_false hy0
   rw [if_neg hy0,if_neg (by omega)] at hF
   have HF:=Lib.hid hF
   clear hF
   go_wp2_with fail
   go_ret
   exact ⟨by rw [HF.out];rfl,bel hb bwy⟩
 ·have hm0b:((m:Int) == 0)=false:=by simp;exact hm0
  have hm0n:(m == 0)=false:=by simp;exact hm0
  go_wp2_with fail
  have HP:=Lib.hid hP
  have HS:=Lib.hid hS
  have HB:=Lib.hid hb
  clear hb hP hS p0 p1 s0 s1 s2 s3 s4 s5
  go_loopw [17,18] (fun v17 v18 wr=>∃ (i:Nat) (f:Int),v17=.int .i64 f∧v18=.int .i64 i∧i≤vn∧Hid (f=K.locGo x.nd x.l x.s x.r v m (tg:Int) i)∧Below wc.heap.size wc wr) (fun _ v18 _=>vn - (intOf v18).toNat)
  case atStart=>exact ⟨0,-1,rfl,rfl,by omega,rfl,Below.refl _ _⟩
  case round =>
   obtain ⟨i,f,rfl,rfl,hi,hf,hbr⟩:=hrel
   have hb:=bel HB.out hbr
   have hfb:=K.locGo_bd HC.out m (tg:Int) i
   rw [←hf.out] at hfb
   by_cases hlt:i < vn
   ·obtain ⟨z,hz,hzi⟩:=HTS.out i hlt
    have HZI:=Lib.hid hzi
    clear hzi
    obtain ⟨m6,hm6⟩:∃ m6:Nat,m6=m * 6:=⟨_,rfl⟩
    obtain ⟨j,hj⟩:∃ j:Nat,j=m6 + i:=⟨_,rfl⟩
    rw [←hm6,←hj] at hz
    have hmt:j < tn:=by rw [hT.1];exact (List.getElem?_eq_some_iff.1 hz).1
    obtain ⟨adt,z2,rfl,hz2,cz⟩:=(hT.below hb).at_ hmt
    rw [hz] at hz2
    injection hz2 with hz2
    subst hz2
    have kw1:IntKind.i64.wrap ((m:Int) * 6)=(m6:Int):=by rw [IntWalk.i64_in _ (by omega)];omega
    have kw3:IntKind.i64.wrap ((m6:Int) + (i:Int))=(j:Int):=by rw [IntWalk.i64_in _ (by omega)];omega
    have kk0:(0:Int)≤(j:Int):=by omega
    have kk1:(j:Int) < (tn:Int):=by omega
    have kk2:(0:Int)≤(i:Int):=by omega
    have kk3:(i:Int) < (vn:Int):=by omega
    have hi8:i < 8:=by omega
    have hm256:m < 256:=by omega
    have hlt':decide (i < vn)=true:=decide_eq_true hlt
    have hlti:decide ((i:Int) < (vn:Int))=true:=decide_eq_true kk3
    clear hz hm6 hj hmt
    go_upto_region 12 with fail
    clear kw1 kw3 kk0 kk1 cz
    cases hbit:m.testBit i
    ·have hb1:bits BinOp.and IntKind.i64 ((m:Int) / 2 ^ i) 1=0:=by rw [bit_at hm256 hi8,hbit];rfl
     have HF:=Lib.hid (show f=K.locGo x.nd x.l x.s x.r v m (tg:Int) (i + 1) by rw [K.locGo_skip (K.lab_no hbit)];exact hf.out)
     clear hf
     go_wp2_with fail
     clear hb1
     go_roundw
     case rel=>(go_light;exact ⟨i + 1,f,rfl,by go_num,hlt,HF.out,hbr⟩)
     case measure=>(go_light;simp [intOf] <;> omega)
    ·have hb1:bits BinOp.and IntKind.i64 ((m:Int) / 2 ^ i) 1=1:=by rw [bit_at hm256 hi8,hbit];rfl
     have hzl:=HZI.out hbit
     have hlb:=K.lab_bd (nd:=x.nd) (l:=x.l) (s:=x.s) (r:=x.r) HC.out m i
     rw [←hzl] at hlb
     have HZL:=Lib.hid hzl
     clear hzl
     by_cases hz0:0≤z
     ·have c1:decide (0≤z)=true:=decide_eq_true hz0
      go_upto_region 13 with fail
      clear hb1 hbit
      obtain ⟨adv,k,rfl,hki,ci⟩:=(hV.below hb).at_ hlt
      obtain ⟨hk0,hk1,hkn⟩:=K.setGo_nodes _ _ (K.ok31_parts HOK.out).2.2.2.2.2 _ (List.mem_of_getElem? hki)
      obtain ⟨j,rfl⟩:∃ j:Nat,k=(j:Int):=⟨k.toNat,by omega⟩
      have hjm:j < x.m:=by rw [hx.reqs.1];omega
      obtain ⟨adq,q,hqB,hgq,-,e0,-⟩:=((hx.below hb).reqs).at_ hjm
      have HQB:=Lib.hid hqB
      have HKI:=Lib.hid hki
      have hrq:=K.req_get hgq
      rw [hrq] at hkn
      have HRQ:=Lib.hid hrq
      have hqn:0≤q.node:=by
       have h1:=(K.ok31_parts HOK.out).2.2.2.1 q (List.mem_of_getElem? hgq)
       exact (K.right_req h1).1.1
      have hP:=HP.out.below hbr
      have p0:=hP.c0
      have p1:=hP.c1
      have hRd:∀ w',Below wr.heap.size wr w'→Roads w' x.A x.n x.l:=fun w' h=>Lst.below ((hx.below hb).net) h
      obtain ⟨y,hway⟩:∃ y,y=K.way x.nd x.l q.node wt (tg:Int):=⟨_,rfl⟩
      have hyb:=K.way_bd x.nd x.l q.node wt (tg:Int)
      rw [←hway] at hyb
      have HWY:=Lib.hid hway
      have j1:(j:Int) < (x.m:Int):=by omega
      have j2:(0:Int)≤(j:Int):=by omega
      rw [hqB]
      clear hP hki hgq hqB hrq hway hjm hk0 hk1
      go_cut [20] from 65 to 78 (fun v20 wx=>v20=.int .i64 y∧Below wc.heap.size wc wx)
      case first =>
       go_region_with (first | (go_at_call 147;refine (rtimes_any x.nd x.A x.n x.c x.l q.node wt _ (hRd _ (Below.refl _ _).drew) hx.b1).mono ?_;rintro e wy ⟨⟨TA,yn,yc,rfl,hTI⟩,bwy⟩;obtain ⟨ady,rfl,cy,j4⟩:=way_read hTI HNE.out ⟨hqn,hkn⟩ hto;rw [←HWY.out] at cy) | fail)
       all_goals (clear p0 p1 e0 ci;go_wp2_with fail;go_meet)
       all_goals (exact ⟨rfl,bel hbr (bel (Below.refl _ _).drew bwy)⟩)
      case rest =>
       obtain ⟨rfl,hbx⟩:=hcut
       clear p0 p1 hRd e0 ci j1 j2
       have hb:=bel HB.out hbx
       by_cases hy0:0≤y
       ·have c2:decide (0≤y)=true:=decide_eq_true hy0
        obtain ⟨sm,hsm⟩:∃ sm,sm=z + y:=⟨_,rfl⟩
        have ksm:IntKind.i64.wrap (z + y)=sm:=by rw [IntWalk.i64_in _ (by omega)];exact hsm.symm
        obtain ⟨g,hg⟩:∃ g,g=K.lessV f sm:=⟨_,rfl⟩
        have HF:=Lib.hid (show g=K.locGo x.nd x.l x.s x.r v m (tg:Int) (i + 1) by
         rw [K.locGo_less HC.out HKI.out (by rw [←HZL.out];exact hz0) (by rw [HRQ.out,←HWT.out,←HWY.out];exact hy0),←hf.out,←HZL.out,HRQ.out,←HWT.out,←HWY.out,←hsm]
         exact hg)
        clear hf hsm
        go_wp2_with fail
        refine (less106_any f sm _).mono ?_
        rw [←hg]
        rintro e w8 ⟨rfl,rfl⟩
        clear ksm hg
        go_wp2_with fail
        rw [←HQB.out]
        go_roundw
        case rel=>(go_light;exact ⟨i + 1,g,rfl,by go_num,hlt,HF.out,hbx⟩)
        case measure=>(go_light;simp [intOf] <;> omega)
       ·have c2:decide (0≤y)=false:=decide_eq_false hy0
        have HF:=Lib.hid (show f=K.locGo x.nd x.l x.s x.r v m (tg:Int) (i + 1) by
         rw [K.locGo_none HKI.out (by rw [HRQ.out,←HWT.out,←HWY.out];omega)]
         exact hf.out)
        clear hf
        go_wp2_with fail
        rw [←HQB.out]
        go_roundw
        case rel=>(go_light;exact ⟨_,_,⟨i + 1,f,rfl,by go_num,hlt,HF.out⟩,rfl,rfl,rfl,rfl⟩)
        case measure=>(go_light;simp [intOf] <;> omega)
     ·have c1:decide (0≤z)=false:=decide_eq_false hz0
      have HF:=Lib.hid (show f=K.locGo x.nd x.l x.s x.r v m (tg:Int) (i + 1) by rw [K.locGo_skip (by rw [←HZL.out];omega)];exact hf.out)
      clear hf
      go_wp2_with fail
      clear hb1
      go_roundw
      case rel=>(go_light;exact ⟨i + 1,f,rfl,by go_num,hlt,HF.out,hbr⟩)
      case measure=>(go_light;simp [intOf] <;> omega)
   ·have HF:=Lib.hid (show K.locF x.nd x.l x.s x.r v m (tg:Int)=f by rw [K.locF_pos hm0,←HVN.out,show vn=i by omega];exact hf.out.symm)
    clear hf
    go_wp2_with fail
    go_ret
    exact ⟨by rw [HF.out];rfl,hb⟩
end Go.Proofs.YtippdjmpkafifaaGreat
