import Derived.Test.YtippdjmpkafifaaGreatCV9
namespace Go.Proofs.YtippdjmpkafifaaGreat
open Go.RowKit
namespace A
def exts (m:Nat):Nat→List (List Nat)
 | 0=>[[]]
 | k + 1=>(List.range m).flatMap fun s=>(exts m k).map (s :: ·)
def give (sh:List (List Int)) (s:Nat) (i:Int):List (List Int):=sh.set s ((sh[s]?).getD [] ++ [i])
def place:List (List Int)→Int→List Nat→List (List Int)
 | sh,_,[]=>sh
 | sh,i,s :: d=>place (give sh s i) (i + 1) d
def fine (B:Nat→List Int→Bool) (sh:List (List Int)) (d:List Nat):Bool:=d.all fun s=>B s ((sh[s]?).getD [])
def assign (B:Nat→List Int→Bool) (m:Nat):Nat→Int→List (List Int)→Option (List (List Int))
 | 0,_,sh=>some sh
 | k + 1,i,sh=>go (assign B m k (i + 1)) i sh (List.range m)
where
 go (rec:List (List Int)→Option (List (List Int))) (i:Int) (sh:List (List Int)):List Nat→Option (List (List Int))
  | []=>none
  | s :: rest=>if B s ((sh[s]?).getD [] ++ [i])=true then (match rec (give sh s i) with | some x=>some x | none=>go rec i sh rest) else go rec i sh rest
def Mono (B:Nat→List Int→Bool):Prop:=∀ s v w,B s (v ++ w)=true→B s v=true
theorem give_len (sh:List (List Int)) (s:Nat) (i:Int):(give sh s i).length=sh.length:=by simp [give]
theorem place_len:∀ (d:List Nat) (sh:List (List Int)) (i:Int),(place sh i d).length=sh.length
 | [],_,_=>rfl
 | s :: d,sh,i=>by rw [place,place_len d,give_len]
theorem give_at {sh:List (List Int)} {s:Nat} {i:Int} (hs:s < sh.length) (t:Nat):((give sh s i)[t]?).getD [] = if t=s then (sh[s]?).getD [] ++ [i] else (sh[t]?).getD []:=by
 unfold give
 rw [List.getElem?_set]
 by_cases h:s=t
 ·subst h;rw [if_pos rfl,if_pos hs,if_pos rfl];rfl
 ·rw [if_neg h,if_neg (fun e=>h e.symm)]
theorem place_pre:∀ (d:List Nat) (sh:List (List Int)) (i:Int),(∀ s ∈ d,s < sh.length)→∀ t:Nat,∃ w:List Int,((place sh i d)[t]?).getD [] = (sh[t]?).getD [] ++ w
 | [],sh,i,_,t=>⟨[],by simp [place]⟩
 | s :: d,sh,i,h,t=>by
  obtain ⟨w,hw⟩:=place_pre d (give sh s i) (i + 1) (fun x hx=>by rw [give_len];exact h x (List.mem_cons_of_mem _ hx)) t
  rw [place,hw,give_at (h s (List.mem_cons_self ..))]
  by_cases e:t=s
  ·rw [if_pos e,List.append_assoc,e];exact ⟨_,rfl⟩
  ·rw [if_neg e];exact ⟨_,rfl⟩
theorem mem_exts {m:Nat}:∀ {k:Nat} {d:List Nat},d ∈ exts m k ↔ d.length=k∧∀ s ∈ d,s < m
 | 0,d=>by
  rw [exts,List.mem_singleton]
  constructor
  ·rintro rfl;exact ⟨rfl,fun s h=>by cases h⟩
  ·rintro ⟨h,-⟩;exact List.length_eq_zero_iff.1 h
 | k + 1,d=>by
  rw [exts,List.mem_flatMap]
  constructor
  ·rintro ⟨s,hs,h⟩
   obtain ⟨e,he,rfl⟩:=List.mem_map.1 h
   obtain ⟨h1,h2⟩:=mem_exts.1 he
   refine ⟨by rw [List.length_cons,h1],fun x hx=>?_⟩
   rcases List.mem_cons.1 hx with rfl | hx
   ·exact List.mem_range.1 hs
   ·exact h2 x hx
  ·rintro ⟨h1,h2⟩
   cases d with
   | nil=>cases h1
   | cons s d =>
    refine ⟨s,List.mem_range.2 (h2 s (List.mem_cons_self ..)),List.mem_map.2 ⟨d,mem_exts.2 ⟨?_,fun x hx=>h2 x (List.mem_cons_of_mem _ hx)⟩,rfl⟩⟩
    rw [List.length_cons] at h1;omega
theorem find_append {α:Type} (p:α→Bool) (a b:List α):(a ++ b).find? p=(a.find? p).or (b.find? p):=by simp
theorem find_congr {α:Type} {p q:α→Bool}:∀ (l:List α),(∀ x ∈ l,p x=q x)→l.find? p=l.find? q
 | [],_=>rfl
 | a :: l,h=>by
  rw [List.find?_cons,List.find?_cons,h a (List.mem_cons_self ..),find_congr l fun x hx=>h x (List.mem_cons_of_mem _ hx)]
theorem assign_eq {B:Nat→List Int→Bool} (hB:Mono B) {m:Nat}:∀ (k:Nat) (i:Int) (sh:List (List Int)),sh.length=m →
  assign B m k i sh=((exts m k).find? fun d=>fine B (place sh i d) d).map (place sh i)
 | 0,i,sh,_=>by simp [assign,exts,fine,place]
 | k + 1,i,sh,hm=>by
  have key:∀ L:List Nat,(∀ s ∈ L,s < m)→assign.go B (assign B m k (i + 1)) i sh L=((L.flatMap fun s=>(exts m k).map (s :: ·)).find? fun d=>fine B (place sh i d) d).map (place sh i):=by
   intro L
   induction L with
   | nil=>intro _;rfl
   | cons s L ih =>
    intro hL
    have hs:s < sh.length:=by rw [hm];exact hL s (List.mem_cons_self ..)
    have ih:=ih fun x hx=>hL x (List.mem_cons_of_mem _ hx)
    rw [List.flatMap_cons,find_append,List.find?_map]
    unfold assign.go
    rw [ih]
    have hfin:∀ d ∈ exts m k,fine B (place sh i (s :: d)) (s :: d)=(B s ((sh[s]?).getD [] ++ [i]) && fine B (place (give sh s i) (i + 1) d) d):=fun d hd=>by
     obtain ⟨-,h2⟩:=mem_exts.1 hd
     obtain ⟨w,hw⟩:=place_pre d (give sh s i) (i + 1) (fun x hx=>by rw [give_len,hm];exact h2 x hx) s
     rw [give_at hs,if_pos rfl] at hw
     unfold fine
     rw [List.all_cons,place,hw]
     by_cases hsd:s ∈ d
     ·cases hall:d.all fun s_1=>B s_1 (((place (give sh s i) (i + 1) d)[s_1]?).getD [])
      ·rw [Bool.and_false,Bool.and_false]
      ·have h1:=List.all_eq_true.1 hall s hsd
       rw [hw] at h1
       rw [h1,hB _ _ _ h1]
     ·have hnt:∀ (d:List Nat) (sh':List (List Int)) (j:Int),s ∉ d→(∀ x ∈ d,x < sh'.length)→((place sh' j d)[s]?).getD [] = (sh'[s]?).getD []:=by
       intro d
       induction d with
       | nil=>intro _ _ _ _;rfl
       | cons x d ih =>
        intro sh' j hn hx
        rw [place,ih _ _ (fun h=>hn (List.mem_cons_of_mem _ h)) (fun y hy=>by rw [give_len];exact hx y (List.mem_cons_of_mem _ hy)),give_at (hx x (List.mem_cons_self ..)),if_neg (fun e=>hn (by rw [e];exact List.mem_cons_self ..))]
      have:=hnt d (give sh s i) (i + 1) hsd (fun x hx=>by rw [give_len,hm];exact h2 x hx)
      rw [hw,give_at hs,if_pos rfl] at this
      rw [this]
    cases hb:B s ((sh[s]?).getD [] ++ [i])
    ·rw [if_neg (by simp)]
     have:(exts m k).find? ((fun d=>fine B (place sh i d) d) ∘ (s :: ·))=none:=by
      rw [List.find?_eq_none]
      intro d hd
      have h:=hfin d hd
      rw [hb,Bool.false_and] at h
      show ¬ fine B (place sh i (s :: d)) (s :: d)=true
      rw [h]
      exact Bool.false_ne_true
     rw [this]
     rfl
    ·rw [if_pos rfl,assign_eq hB k (i + 1) (give sh s i) (by rw [give_len,hm])]
     have:(exts m k).find? ((fun d=>fine B (place sh i d) d) ∘ (s :: ·))=(exts m k).find? fun d=>fine B (place (give sh s i) (i + 1) d) d:=by
      apply find_congr
      intro d hd
      have h:=hfin d hd
      rw [hb,Bool.true_and] at h
      exact h
     rw [this]
     cases (exts m k).find? fun d=>fine B (place (give sh s i) (i + 1) d) d with
     | none=>rfl
     | some d=>rfl
  rw [assign]
  exact key _ fun s hs=>List.mem_range.1 hs
end A
namespace A
def share:List Nat→Nat→Int→List Int
 | [],_,_=>[]
 | x :: d,s,i=>if x=s then i :: share d s (i + 1) else share d s (i + 1)
theorem place_share:∀ (d:List Nat) (sh:List (List Int)) (i:Int),(∀ s ∈ d,s < sh.length)→∀ t:Nat,((place sh i d)[t]?).getD [] = (sh[t]?).getD [] ++ share d t i
 | [],sh,i,_,t=>by simp [place,share]
 | s :: d,sh,i,h,t=>by
  rw [place,place_share d (give sh s i) (i + 1) (fun x hx=>by rw [give_len];exact h x (List.mem_cons_of_mem _ hx)),give_at (h s (List.mem_cons_self ..)),share]
  by_cases e:t=s
  ·rw [if_pos e,if_pos e.symm,List.append_assoc,e];rfl
  ·rw [if_neg e,if_neg (fun e2=>e e2.symm)]
theorem share_nil:∀ {d:List Nat} {s:Nat} {i:Int},share d s i=[] ↔ s ∉ d
 | [],s,i=>by simp [share]
 | x :: d,s,i=>by
  rw [share]
  by_cases h:x=s
  ·rw [if_pos h];simp [h]
  ·rw [if_neg h,share_nil]
   simp only [List.mem_cons,not_or]
   exact ⟨fun h2=>⟨fun e=>h e.symm,h2⟩,fun h2=>h2.2⟩
theorem share_mem:∀ {d:List Nat} {s:Nat} {i x:Int},x ∈ share d s i→i≤x∧x < i + d.length
 | [],s,i,x,h=>by cases h
 | y :: d,s,i,x,h=>by
  rw [share] at h
  rw [List.length_cons]
  split at h
  ·rcases List.mem_cons.1 h with rfl | h
   ·omega
   ·have:=share_mem h;omega
  ·have:=share_mem h;omega
theorem share_sorted:∀ (d:List Nat) (s:Nat) (i:Int),(share d s i).Pairwise (· < ·)
 | [],s,i=>List.Pairwise.nil
 | y :: d,s,i=>by
  rw [share]
  split
  ·refine List.pairwise_cons.2 ⟨fun x hx=>?_,share_sorted d s (i + 1)⟩
   have:=share_mem hx;omega
  ·exact share_sorted d s (i + 1)
def possible (B:Nat→List Int→Bool) (m:Nat) (d:List Nat):Bool:=(List.range m).all fun s=>(share d s 0).isEmpty || B s (share d s 0)
def first (B:Nat→List Int→Bool) (m n:Nat):Option (List Nat):=(exts m n).find? (possible B m)
theorem fine_possible {B:Nat→List Int→Bool} {m k:Nat} {d:List Nat} (h:d ∈ exts m k):fine B (place (List.replicate m []) 0 d) d=possible B m d:=by
 obtain ⟨-,h2⟩:=mem_exts.1 h
 have hp:∀ t:Nat,((place (List.replicate m []) 0 d)[t]?).getD [] = share d t 0:=fun t=>by
  rw [place_share d _ 0 (fun s hs=>by rw [List.length_replicate];exact h2 s hs)]
  have:((List.replicate m ([]:List Int))[t]?).getD [] = []:=by
   by_cases ht:t < m
   ·rw [List.getElem?_replicate,if_pos ht];rfl
   ·rw [List.getElem?_replicate,if_neg ht];rfl
  rw [this,List.nil_append]
 unfold fine possible
 rw [Bool.eq_iff_iff,List.all_eq_true,List.all_eq_true]
 constructor
 ·intro h3 s _
  by_cases hs:s ∈ d
  ·have:=h3 s hs
   rw [hp] at this
   rw [this,Bool.or_true]
  ·rw [share_nil.2 hs];rfl
 ·intro h3 s hs
  have:=h3 s (List.mem_range.2 (h2 s hs))
  rw [hp]
  rcases Bool.or_eq_true_iff.1 this with h4 | h4
  ·rw [List.isEmpty_iff,share_nil] at h4;exact absurd hs h4
  ·exact h4
theorem place_list {m k:Nat} {d:List Nat} (h:d ∈ exts m k):place (List.replicate m []) 0 d=(List.range m).map fun s=>share d s 0:=by
 obtain ⟨-,h2⟩:=mem_exts.1 h
 have hl:(place (List.replicate m []) 0 d).length=m:=by rw [place_len,List.length_replicate]
 apply List.ext_getElem?
 intro t
 have h3:=place_share d (List.replicate m []) 0 (fun s hs=>by rw [List.length_replicate];exact h2 s hs) t
 by_cases ht:t < m
 ·rw [List.getElem?_replicate,if_pos ht,List.getElem?_eq_getElem (by rw [hl];exact ht)] at h3
  rw [List.getElem?_eq_getElem (by rw [hl];exact ht),List.getElem?_map,List.getElem?_range ht]
  exact congrArg some h3
 ·rw [List.getElem?_eq_none (by rw [hl];omega),List.getElem?_eq_none (by rw [List.length_map,List.length_range];omega)]
theorem assign_first {B:Nat→List Int→Bool} (hB:Mono B) (m n:Nat):assign B m n 0 (List.replicate m [])=(first B m n).map fun d=>(List.range m).map fun s=>share d s 0:=by
 rw [assign_eq hB n 0 _ (List.length_replicate ..),first]
 rw [find_congr (exts m n) fun d hd=>fine_possible hd]
 cases h:(exts m n).find? (possible B m) with
 | none=>rfl
 | some d=>exact congrArg some (place_list (List.mem_of_find?_eq_some h))
def MonoS (B:Nat→List Int→Bool):Prop:=∀ s v w,v.Sublist w→B s w=true→B s v=true
theorem MonoS.mono {B:Nat→List Int→Bool} (h:MonoS B):Mono B:=fun s v w=>h s v (v ++ w) (List.sublist_append_left v w)
theorem sub_of_sorted:∀ {w v:List Int},v.Pairwise (· < ·)→w.Pairwise (· < ·)→(∀ x ∈ v,x ∈ w)→v.Sublist w
 | [],v,_,_,h=>by
  cases v with
  | nil=>exact List.Sublist.refl _
  | cons x v=>cases h x (List.mem_cons_self ..)
 | y :: w,[],_,_,_=>List.nil_sublist _
 | y :: w,x :: v,hv,hw,h=>by
  obtain ⟨hv1,hv2⟩:=List.pairwise_cons.1 hv
  obtain ⟨hw1,hw2⟩:=List.pairwise_cons.1 hw
  rcases List.mem_cons.1 (h x (List.mem_cons_self ..)) with rfl | hx
  ·refine List.Sublist.cons_cons _ (sub_of_sorted hv2 hw2 fun z hz=>?_)
   rcases List.mem_cons.1 (h z (List.mem_cons_of_mem _ hz)) with rfl | hz2
   ·have:=hv1 _ hz;omega
   ·exact hz2
  ·refine List.Sublist.cons _ (sub_of_sorted hv hw2 fun z hz=>?_)
   rcases List.mem_cons.1 (h z hz) with rfl | hz2
   ·have h1:=hw1 x hx
    rcases List.mem_cons.1 hz with rfl | hz3
    ·omega
    ·have:=hv1 _ hz3;omega
   ·exact hz2
def combos (below:Nat):Nat→Nat→List (List Int)
 | 0,_=>[[]]
 | n + 1,f=>(List.range' f (below - f)).flatMap fun i=>(combos below n (i + 1)).map ((i:Int) :: ·)
theorem mem_combos {below:Nat}:∀ {n f:Nat} {v:List Int},v ∈ combos below n f ↔ v.length=n∧v.Pairwise (· < ·)∧∀ x ∈ v,(f:Int)≤x∧x < (below:Int)
 | 0,f,v=>by
  rw [combos,List.mem_singleton]
  constructor
  ·rintro rfl;exact ⟨rfl,List.Pairwise.nil,fun x h=>by cases h⟩
  ·rintro ⟨h,-⟩;exact List.length_eq_zero_iff.1 h
 | n + 1,f,v=>by
  rw [combos,List.mem_flatMap]
  constructor
  ·rintro ⟨i,hi,h⟩
   obtain ⟨u,hu,rfl⟩:=List.mem_map.1 h
   obtain ⟨h1,h2,h3⟩:=mem_combos.1 hu
   rw [List.mem_range'_1] at hi
   refine ⟨by rw [List.length_cons,h1],List.pairwise_cons.2 ⟨fun x hx=>?_,h2⟩,fun x hx=>?_⟩
   ·have:=h3 x hx;omega
   ·rcases List.mem_cons.1 hx with rfl | hx
    ·omega
    ·have:=h3 x hx;omega
  ·rintro ⟨h1,h2,h3⟩
   cases v with
   | nil=>cases h1
   | cons x v =>
    obtain ⟨g1,g2⟩:=List.pairwise_cons.1 h2
    have g3:=h3 x (List.mem_cons_self ..)
    refine ⟨x.toNat,by rw [List.mem_range'_1];omega,List.mem_map.2 ⟨v,mem_combos.2 ⟨by rw [List.length_cons] at h1;omega,g2,fun y hy=>?_⟩,by rw [Int.toNat_of_nonneg (by omega)]⟩⟩
    have:=g1 y hy
    have:=h3 y (List.mem_cons_of_mem _ hy)
    omega
def part (a b:List Int):Bool:=a.all fun x=>b.any (· == x)
theorem part_iff {a b:List Int}:part a b=true ↔ ∀ x ∈ a,x ∈ b:=by
 unfold part
 rw [List.all_eq_true]
 refine ⟨fun h x hx=>?_,fun h x hx=>?_⟩
 ·obtain ⟨y,hy,e⟩:=List.any_eq_true.1 (h x hx)
  rw [←beq_iff_eq.1 e];exact hy
 ·exact List.any_eq_true.2 ⟨x,h x hx,beq_self_eq_true _⟩
def ownGo (ok:List Int→Bool):List (List Int)→List (List Int)→List (List Int)
 | own,[]=>own
 | own,v :: rest=>ownGo ok (if !(own.any fun u=>part u v) && !ok v then own ++ [v] else own) rest
def allSets (n:Nat):List (List Int):=(List.range n).flatMap fun k=>combos n (k + 1) 0
def own (ok:List Int→Bool) (n:Nat):List (List Int):=ownGo ok [] (allSets n)
theorem mem_allSets {n:Nat} {v:List Int}:v ∈ allSets n ↔ v ≠ []∧v.Pairwise (· < ·)∧∀ x ∈ v,0≤x∧x < (n:Int):=by
 unfold allSets
 rw [List.mem_flatMap]
 constructor
 ·rintro ⟨k,hk,h⟩
  obtain ⟨h1,h2,h3⟩:=mem_combos.1 h
  exact ⟨fun e=>(by rw [e] at h1;cases h1),h2,fun x hx=>by have:=h3 x hx;omega⟩
 ·rintro ⟨h1,h2,h3⟩
  have hlen:v.length≤n:=by
   have key:∀ (v:List Int) (a:Nat),v.Pairwise (· < ·)→(∀ x ∈ v,(a:Int)≤x∧x < (n:Int))→a≤n→v.length≤n - a:=by
    intro v
    induction v with
    | nil=>intro a _ _ _;exact Nat.zero_le _
    | cons x v ih =>
     intro a hp hx ha
     obtain ⟨p1,p2⟩:=List.pairwise_cons.1 hp
     have hx0:=hx x (List.mem_cons_self ..)
     have:=ih (x.toNat + 1) p2 (fun y hy=>by have:=p1 y hy;have:=hx y (List.mem_cons_of_mem _ hy);omega) (by omega)
     rw [List.length_cons];omega
   have:=key v 0 h2 (fun x hx=>by have:=h3 x hx;omega) (Nat.zero_le _)
   omega
  have hpos:0 < v.length:=List.length_pos_iff.2 h1
  exact ⟨v.length - 1,List.mem_range.2 (by omega),mem_combos.2 ⟨by omega,h2,fun x hx=>by have:=h3 x hx;omega⟩⟩
theorem ownGo_mem {ok:List Int→Bool}:∀ (L own:List (List Int)) (v:List Int),v ∈ ownGo ok own L→v ∈ own∨(v ∈ L∧ok v=false)
 | [],own,v,h=>.inl h
 | u :: L,own,v,h=>by
  rw [ownGo] at h
  rcases ownGo_mem L _ v h with h | ⟨h1,h2⟩
  ·split at h
   ·rename_i hc
    rcases List.mem_append.1 h with h | h
    ·exact .inl h
    ·rw [List.mem_singleton] at h
     subst h
     rw [Bool.and_eq_true,Bool.not_eq_true',Bool.not_eq_true'] at hc
     exact .inr ⟨List.mem_cons_self ..,hc.2⟩
   ·exact .inl h
  ·exact .inr ⟨List.mem_cons_of_mem _ h1,h2⟩
theorem ownGo_keep {ok:List Int→Bool}:∀ (L own:List (List Int)) (v:List Int),v ∈ own→v ∈ ownGo ok own L
 | [],own,v,h=>h
 | u :: L,own,v,h=>by
  rw [ownGo]
  refine ownGo_keep L _ v ?_
  split
  ·exact List.mem_append_left _ h
  ·exact h
theorem ownGo_covers {ok:List Int→Bool}:∀ (L own:List (List Int)) (v:List Int),v ∈ L→ok v=false→∃ u ∈ ownGo ok own L,part u v=true
 | [],own,v,h,_=>by cases h
 | u :: L,own,v,h,hv=>by
  rw [ownGo]
  rcases List.mem_cons.1 h with rfl | h
  ·cases hc:own.any fun u=>part u v
   ·refine ⟨v,ownGo_keep L _ v ?_,part_iff.2 fun x hx=>hx⟩
    rw [if_pos (by rw [hv];rfl)]
    exact List.mem_append_right _ (List.mem_singleton_self v)
   ·obtain ⟨u,hu,e⟩:=List.any_eq_true.1 hc
    refine ⟨u,ownGo_keep L _ u ?_,e⟩
    rw [if_neg (by simp)]
    exact hu
  ·exact ownGo_covers L _ v h hv
theorem own_mem {ok:List Int→Bool} {n:Nat} {v:List Int} (h:v ∈ own ok n):v ∈ allSets n∧ok v=false:=by
 rcases ownGo_mem _ _ _ h with h | h
 ·cases h
 ·exact h
theorem own_covers {ok:List Int→Bool} {n:Nat} {v:List Int} (h:v ∈ allSets n) (hv:ok v=false):∃ u ∈ own ok n,part u v=true:=ownGo_covers _ _ v h hv
theorem ownGo_len {ok:List Int→Bool}:∀ (L own:List (List Int)),(ownGo ok own L).length≤own.length + L.length
 | [],own=>by simp [ownGo]
 | u :: L,own=>by
  rw [ownGo,List.length_cons]
  refine Nat.le_trans (ownGo_len L _) ?_
  split
  ·rw [List.length_append,List.length_singleton];omega
  ·omega
theorem own_len {ok:List Int→Bool} {n:Nat} (hn:n≤4):(own ok n).length≤15:=by
 refine Nat.le_trans (ownGo_len _ _) ?_
 have:∀ k:Fin 5,([]:List (List Int)).length + (allSets k.val).length≤15:=by decide +kernel
 exact this ⟨n,by omega⟩
def hit (bl:List (Nat × List Int)) (sh:List (List Int)):Bool:=bl.any fun b=>part b.2 ((sh[b.1]?).getD [])
def blocked (bl:List (Nat × List Int)) (m:Nat):Nat→Int→List (List Int)→Bool
 | 0,_,sh=>hit bl sh
 | k + 1,i,sh=>hit bl sh || (List.range m).all fun s=>blocked bl m k (i + 1) (give sh s i)
theorem hit_place {bl:List (Nat × List Int)} {sh:List (List Int)} {i:Int} {d:List Nat} (hd:∀ s ∈ d,s < sh.length) (h:hit bl sh=true):hit bl (place sh i d)=true:=by
 obtain ⟨b,hb,e⟩:=List.any_eq_true.1 h
 refine List.any_eq_true.2 ⟨b,hb,part_iff.2 fun x hx=>?_⟩
 rw [place_share d sh i hd]
 exact List.mem_append_left _ (part_iff.1 e x hx)
theorem blocked_iff {bl:List (Nat × List Int)} {m:Nat}:∀ (k:Nat) (i:Int) (sh:List (List Int)),sh.length=m→(blocked bl m k i sh=true ↔ ∀ d ∈ exts m k,hit bl (place sh i d)=true)
 | 0,i,sh,_=>by
  rw [blocked,exts]
  constructor
  ·intro h d hd;rw [List.mem_singleton.1 hd];exact h
  ·intro h;exact h [] (List.mem_singleton_self _)
 | k + 1,i,sh,hm=>by
  rw [blocked,Bool.or_eq_true]
  constructor
  ·rintro (h | h) d hd
   ·exact hit_place (fun s hs=>by rw [hm];exact (mem_exts.1 hd).2 s hs) h
   ·rw [exts,List.mem_flatMap] at hd
    obtain ⟨s,hs,hd⟩:=hd
    obtain ⟨e,he,rfl⟩:=List.mem_map.1 hd
    exact (blocked_iff k (i + 1) (give sh s i) (by rw [give_len,hm])).1 (List.all_eq_true.1 h s hs) e he
  ·intro h
   refine .inr (List.all_eq_true.2 fun s hs=>(blocked_iff k (i + 1) (give sh s i) (by rw [give_len,hm])).2 fun e he=>?_)
   exact h (s :: e) (by rw [exts,List.mem_flatMap];exact ⟨s,hs,List.mem_map.2 ⟨e,he,rfl⟩⟩)
theorem own_blocked {B:Nat→List Int→Bool} {m n:Nat} (h:first B m n=none):blocked ((List.range m).flatMap fun s=>(own (B s) n).map fun v=>(s,v)) m n 0 (List.replicate m [])=true:=by
 refine (blocked_iff n 0 (List.replicate m []) (List.length_replicate ..)).2 fun d hd=>?_
 obtain ⟨d1,d2⟩:=mem_exts.1 hd
 have h1:=List.find?_eq_none.1 h d hd
 unfold possible at h1
 rw [List.all_eq_true] at h1
 obtain ⟨s,hs⟩:=Classical.not_forall.1 h1
 obtain ⟨hsm,hs⟩:=Classical.not_forall.1 hs
 rw [Bool.or_eq_true,not_or,List.isEmpty_iff] at hs
 obtain ⟨hs1,hs2⟩:=hs
 have hs2:B s (share d s 0)=false:=by simpa using hs2
 have hmem:share d s 0 ∈ allSets n:=mem_allSets.2 ⟨hs1,share_sorted _ _ _,fun x hx=>by have:=share_mem hx;omega⟩
 obtain ⟨u,hu,hp⟩:=own_covers hmem hs2
 refine List.any_eq_true.2 ⟨(s,u),List.mem_flatMap.2 ⟨s,hsm,List.mem_map.2 ⟨u,hu,rfl⟩⟩,?_⟩
 rw [place_share d _ 0 (fun s hs=>by rw [List.length_replicate];exact d2 s hs),List.getElem?_replicate,if_pos (List.mem_range.1 hsm)]
 exact hp
end A
namespace K
theorem sub_mask:∀ {v w:List Int},v.Sublist w→∃ m,part w m=v
 | _,_,.slnil=>⟨0,rfl⟩
 | _,_,.cons a h=>by
  obtain ⟨m,e⟩:=sub_mask h
  refine ⟨2 * m,?_⟩
  have h1:(2 * m).testBit 0=false:=by rw [Nat.testBit_zero];simp
  rw [part,if_neg (by rw [h1];simp),show 2 * m / 2=m by omega,e]
 | _,_,.cons_cons a h=>by
  obtain ⟨m,e⟩:=sub_mask h
  refine ⟨2 * m + 1,?_⟩
  have h1:(2 * m + 1).testBit 0=true:=by rw [Nat.testBit_zero];simp
  rw [part,if_pos h1,show (2 * m + 1) / 2=m by omega,e]
def badS (nd:Int) (s:S):Bool:=!(T.check s == 0) || decide (nd≤s.depot)
def badQ (nd:Int) (q:Q):Bool:=!T.right q || decide (nd≤q.node)
def pcheck (nd:Int) (l:List Ro) (ss:List S) (r:List Q):Int :=
 if netErr nd l == 0 && (decide (ss.length≤4) && (!(ss.any (badS nd)) && !(r.any (badQ nd)))) then (if 6 < r.length then 6 else 0) else 1
def feas (nd:Int) (l:List Ro) (ss:List S) (r:List Q) (s:Nat) (v:List Int):Bool:=match ss[s]? with
 | none=>false
 | some x=>(bestOut nd l x r v).2 == 0
def toursOf (nd:Int) (l:List Ro) (ss:List S) (r:List Q) (d:List Nat):List (Nat × Tr) :=
 (List.range ss.length).filterMap fun s=>if (A.share d s 0).isEmpty then none else match ss[s]? with
  | none=>none
  | some x=>(best nd l x r (A.share d s 0)).map fun t=>(s,t)
def plan (nd:Int) (l:List Ro) (ss:List S) (r:List Q):List (Nat × Tr) × Int :=
 if pcheck nd l ss r=0 then (match A.first (feas nd l ss r) ss.length r.length with
  | none=>([],4)
  | some d=>(toursOf nd l ss r d,0)) else ([],pcheck nd l ss r)
def sets32 (nd:Int) (l:List Ro) (ss:List S) (r:List Q):List (Nat × List Int):=(List.range ss.length).flatMap fun s=>(A.own (feas nd l ss r s) r.length).map fun v=>(s,v)
def blk32 (nd:Int) (l:List Ro) (ss:List S) (r:List Q) (b:Nat × List Int):Nat × List Int × List Lb:=(b.1,b.2,match ss[b.1]? with | none=>[] | some x=>labs nd l x r b.2)
def refute (nd:Int) (l:List Ro) (ss:List S) (r:List Q):List (Nat × List Int × List Lb) × Int :=
 if (plan nd l ss r).2=0 then ([],7) else if (plan nd l ss r).2=4 then ((sets32 nd l ss r).map (blk32 nd l ss r),0) else ([],(plan nd l ss r).2)
def checkGo (nd:Int) (l:List Ro) (ss:List S) (r:List Q):Int→List Int→List (Int × Tr)→Int
 | _,served,[]=>if served.length < r.length then 4 else 0
 | last,served,t :: rest=>match (if t.1 < 0 then none else ss[t.1.toNat]?) with
  | none=>1
  | some x=>if t.1≤last then 5 else if t.2.stops.isEmpty || !(check nd l x r t.2) then 24 else if t.2.stops.any (fun k=>served.any (· == k)) then 5 else checkGo nd l ss r t.1 (served ++ t.2.stops) rest
def checks (nd:Int) (l:List Ro) (ss:List S) (r:List Q) (ts:List (Int × Tr)):Int :=
 if pcheck nd l ss r=0 then checkGo nd l ss r (-1) [] ts else pcheck nd l ss r
def okBlock (nd:Int) (l:List Ro) (ss:List S) (r:List Q) (b:Int × List Int × List Lb):Bool:=match (if b.1 < 0 then none else ss[b.1.toNat]?) with
 | none=>false
 | some x=>blocks nd l x r b.2.1 b.2.2
def refutes (nd:Int) (l:List Ro) (ss:List S) (r:List Q) (bl:List (Int × List Int × List Lb)):Bool :=
 (pcheck nd l ss r == 0) && (decide (bl.length≤200) && (bl.all (okBlock nd l ss r) && A.blocked (bl.map fun b=>(b.1.toNat,b.2.1)) ss.length r.length 0 (List.replicate ss.length [])))
section
variable {nd : Int} {l : List Ro} {ss : List S} {r : List Q}
theorem bestOut_zero {s:S} {v:List Int}:(bestOut nd l s r v).2=0 ↔ ok31 nd l s r v=true∧∃ t,best nd l s r v=some t:=by
 unfold bestOut
 constructor
 ·intro h
  split at h
  ·rename_i h1
   refine ⟨h1,?_⟩
   split at h
   ·rename_i t ht;exact ⟨t,ht⟩
   ·cases h
  ·cases h
 ·rintro ⟨h1,t,h2⟩
  rw [if_pos h1,h2]
theorem best_sub {s:S} {v w:List Int} (h:v.Sublist w) (hw:(bestOut nd l s r w).2=0):(bestOut nd l s r v).2=0:=by
 obtain ⟨h1,t,h2⟩:=bestOut_zero.1 hw
 obtain ⟨m,rfl⟩:=sub_mask h
 obtain ⟨u,h3,-⟩:=less_law h1 m h2
 exact bestOut_zero.2 ⟨ok31_part m h1,u,h3⟩
theorem feas_mono:A.MonoS (feas nd l ss r):=fun s v w h hw=>by
 unfold feas at hw ⊢
 cases hs:ss[s]? with
 | none=>rw [hs] at hw;cases hw
 | some x =>
  rw [hs] at hw
  exact beq_iff_eq.2 (best_sub h (beq_iff_eq.1 hw))
theorem pcheck_ok (h:pcheck nd l ss r=0):netErr nd l=0∧ss.length≤4∧(∀ s ∈ ss,T.check s=0∧s.depot < nd)∧(∀ q ∈ r,T.right q=true∧q.node < nd)∧r.length≤6:=by
 unfold pcheck at h
 split at h
 ·rename_i h1
  split at h
  ·cases h
  ·rename_i h2
   simp only [Bool.and_eq_true,beq_iff_eq,decide_eq_true_eq,Bool.not_eq_true',List.any_eq_false,badS,badQ,Bool.or_eq_true,not_or,Bool.not_eq_false] at h1
   obtain ⟨g1,g2,g3,g4⟩:=h1
   refine ⟨g1,g2,fun s hs=>?_,fun q hq=>?_,by omega⟩
   ·have:=g3 s hs
    simp at this
    exact this
   ·have:=g4 q hq
    simp at this
    exact this
 ·cases h
theorem pcheck_cases:pcheck nd l ss r=0∨pcheck nd l ss r=1∨pcheck nd l ss r=6:=by
 unfold pcheck
 split
 ·split
  ·exact .inr (.inr rfl)
  ·exact .inl rfl
 ·exact .inr (.inl rfl)
theorem ok31_of (h:pcheck nd l ss r=0) {s:S} (hs:s ∈ ss) {v:List Int} (hv:v.Pairwise (· < ·)) (hm:∀ x ∈ v,0≤x∧x < (r.length:Int)):ok31 nd l s r v=true:=by
 obtain ⟨h1,h2,h3,h4,h5⟩:=pcheck_ok h
 have hlen:v.length≤6:=by
  have hn:v.Nodup:=hv.imp fun h=>Int.ne_of_lt h
  have hsub:=A.sub_of_sorted (w:=(List.range r.length).map fun (i:Nat)=>(i:Int)) hv (by
   rw [List.pairwise_map]
   exact List.pairwise_lt_range.imp fun h=>by omega) (fun x hx=>List.mem_map.2 ⟨x.toNat,by have:=hm x hx;rw [List.mem_range];omega,by have:=hm x hx;omega⟩)
  have:=hsub.length_le
  rw [List.length_map,List.length_range] at this
  omega
 have hreq:∀ x ∈ v,req r x ∈ r:=fun x hx=>by
  have hb:=hm x hx
  have hlt:x.toNat < r.length:=by omega
  unfold req
  rw [List.getElem?_eq_getElem hlt]
  exact List.getElem_mem hlt
 simp only [ok31,Bool.and_eq_true,beq_iff_eq,decide_eq_true_eq,Bool.not_eq_true',List.any_eq_false]
 refine ⟨h1,(h3 s hs).1,(h3 s hs).2,fun q hq=>by simp [(h4 q hq).1],hlen,(setGo_iff _ _).2 ⟨fun k hk=>⟨(hm k hk).1,(hm k hk).2,by have:=(hm k hk).1;omega,(h4 _ (hreq k hk)).2⟩,hv⟩⟩
theorem feas_iff (h:pcheck nd l ss r=0) {k:Nat} {v:List Int} (hv:v.Pairwise (· < ·)) (hm:∀ x ∈ v,0≤x∧x < (r.length:Int)):feas nd l ss r k v=true ↔ ∃ s t,ss[k]? = some s∧best nd l s r v=some t:=by
 unfold feas
 cases hs:ss[k]? with
 | none=>simp
 | some x =>
  simp only [beq_iff_eq,bestOut_zero]
  constructor
  ·rintro ⟨-,t,ht⟩;exact ⟨x,t,rfl,ht⟩
  ·rintro ⟨s,t,e,ht⟩
   injection e with e
   subst e
   exact ⟨ok31_of h (List.mem_of_getElem? hs) hv hm,t,ht⟩
theorem first_some {B:Nat→List Int→Bool} {m n:Nat} {d:List Nat} (h:A.first B m n=some d):d.length=n∧(∀ s ∈ d,s < m)∧∀ s < m,A.share d s 0=[]∨B s (A.share d s 0)=true:=by
 obtain ⟨h1,h2⟩:=A.mem_exts.1 (List.mem_of_find?_eq_some h)
 have h3:=List.find?_some h
 refine ⟨h1,h2,fun s hs=>?_⟩
 rcases Bool.or_eq_true_iff.1 (List.all_eq_true.1 h3 s (List.mem_range.2 hs)) with h4 | h4
 ·exact .inl (List.isEmpty_iff.1 h4)
 ·exact .inr h4
theorem plan_cases (h:pcheck nd l ss r=0):((plan nd l ss r)=([],4)∧A.first (feas nd l ss r) ss.length r.length=none)∨∃ d,A.first (feas nd l ss r) ss.length r.length=some d∧plan nd l ss r=(toursOf nd l ss r d,0):=by
 unfold plan
 rw [if_pos h]
 cases A.first (feas nd l ss r) ss.length r.length with
 | none=>exact .inl ⟨rfl,rfl⟩
 | some d=>exact .inr ⟨d,rfl,rfl⟩
theorem plan_err (h:pcheck nd l ss r ≠ 0):plan nd l ss r=([],pcheck nd l ss r):=by unfold plan;rw [if_neg h]
theorem plan_4 (h:(plan nd l ss r).2=4):pcheck nd l ss r=0∧plan nd l ss r=([],4)∧A.first (feas nd l ss r) ss.length r.length=none:=by
 by_cases h1:pcheck nd l ss r=0
 ·rcases plan_cases h1 with ⟨h2,h3⟩ | ⟨d,-,h2⟩
  ·exact ⟨h1,h2,h3⟩
  ·rw [h2] at h;cases h
 ·rw [plan_err h1] at h
  rcases pcheck_cases (nd:=nd) (l:=l) (ss:=ss) (r:=r) with e | e | e <;> rw [e] at h <;> cases h
theorem plan_0 (h:(plan nd l ss r).2=0):pcheck nd l ss r=0∧∃ d,A.first (feas nd l ss r) ss.length r.length=some d∧plan nd l ss r=(toursOf nd l ss r d,0):=by
 by_cases h1:pcheck nd l ss r=0
 ·rcases plan_cases h1 with ⟨h2,h3⟩ | ⟨d,g,h2⟩
  ·rw [h2] at h;cases h
  ·exact ⟨h1,d,g,h2⟩
 ·rw [plan_err h1] at h
  exact absurd h h1
theorem refute_refutes (hm:ss.length≤4) (hn:r.length≤4) (h:(plan nd l ss r).2=4):(refute nd l ss r).2=0∧refutes nd l ss r ((refute nd l ss r).1.map fun b=>((b.1:Int),b.2))=true:=by
 obtain ⟨h1,-,h3⟩:=plan_4 h
 have hr:refute nd l ss r=((sets32 nd l ss r).map (blk32 nd l ss r),0):=by
  unfold refute
  rw [if_neg (by rw [h];decide),if_pos h]
 rw [hr]
 refine ⟨rfl,?_⟩
 unfold refutes
 simp only [Bool.and_eq_true,beq_iff_eq,decide_eq_true_eq]
 refine ⟨h1,?_,?_,?_⟩
 ·rw [List.length_map,List.length_map]
  have key:∀ L:List Nat,(L.flatMap fun s=>(A.own (feas nd l ss r s) r.length).map fun v=>(s,v)).length≤15 * L.length:=by
   intro L
   induction L with
   | nil=>exact Nat.zero_le _
   | cons x L ih =>
    rw [List.flatMap_cons,List.length_append,List.length_map,List.length_cons]
    have:=A.own_len (ok:=feas nd l ss r x) hn
    omega
  have:=key (List.range ss.length)
  rw [List.length_range] at this
  unfold sets32
  omega
 ·rw [List.all_eq_true]
  intro b hb
  obtain ⟨b1,hb1,rfl⟩:=List.mem_map.1 hb
  obtain ⟨b2,hb2,rfl⟩:=List.mem_map.1 hb1
  obtain ⟨k,hk,hb3⟩:=List.mem_flatMap.1 hb2
  obtain ⟨v,hv,rfl⟩:=List.mem_map.1 hb3
  obtain ⟨g1,g2⟩:=A.own_mem hv
  obtain ⟨g3,g4,g5⟩:=A.mem_allSets.1 g1
  have hkl:k < ss.length:=List.mem_range.1 hk
  have hs:ss[k]? = some ss[k]:=List.getElem?_eq_getElem hkl
  unfold okBlock blk32
  simp only [if_neg (show ¬ ((k:Int) < 0) by omega),Int.toNat_natCast,hs]
  have hok:=ok31_of h1 (List.getElem_mem hkl) g4 g5
  rw [proves_law hok g3]
  cases hb:best nd l ss[k] r v with
  | none=>rfl
  | some t =>
   have:=(feas_iff h1 g4 g5).2 ⟨_,t,hs,hb⟩
   rw [g2] at this
   cases this
 ·have:=A.own_blocked h3
  rw [List.map_map,List.map_map]
  have he:(((fun b:Int × List Int × List Lb=>(b.1.toNat,b.2.1)) ∘ (fun b:Nat × List Int × List Lb=>((b.1:Int),b.2))) ∘ blk32 nd l ss r)=id:=by
   funext b;rfl
  rw [he,List.map_id]
  exact this
theorem check_run {s:S} {t:Tr} (h:check nd l s r t=true):(run nd l s r t.stops).e=0∧(∀ x ∈ t.stops,0≤x∧x < (r.length:Int))∧t.stops.Nodup:=by
 unfold check at h
 simp only [Bool.and_eq_true,beq_iff_eq,decide_eq_true_eq] at h
 obtain ⟨h1,-⟩:=h
 have h2:=T.isSet_iff.1 (T.load_parts (right_parts (run_ok h1).1).2.1).2.1
 exact ⟨h1,h2.1,h2.2⟩
theorem check_best {s:S} {v:List Int} (hok:ok31 nd l s r v=true) {t:Tr} (h:best nd l s r v=some t):check nd l s r t=true∧t.stops.Perm v:=by
 obtain ⟨h1,h2,-⟩:=best_tour hok h
 refine ⟨?_,h1⟩
 unfold check
 simp [h2]
theorem len_sub:∀ {a b:List Int},a.Nodup→(∀ x ∈ a,x ∈ b)→a.length≤b.length
 | [],_,_,_=>Nat.zero_le _
 | x :: a,b,hn,h=>by
  obtain ⟨h1,h2⟩:=List.nodup_cons.1 hn
  have hx:=h x (List.mem_cons_self ..)
  have:=len_sub (b:=b.erase x) h2 fun y hy=>(List.mem_erase_of_ne (fun e=>h1 (by rw [←e];exact hy))).2 (h y (List.mem_cons_of_mem _ hy))
  rw [List.length_erase_of_mem hx] at this
  have:=List.length_pos_of_mem hx
  rw [List.length_cons];omega
theorem checkGo_tours (h:pcheck nd l ss r=0) {d:List Nat} (hd:A.first (feas nd l ss r) ss.length r.length=some d) :
  ∀ (k j:Nat) (last:Int) (served:List Int),j + k=ss.length→last < (j:Int)→(∀ x,x ∈ served ↔ ∃ s,s < j∧x ∈ A.share d s 0)→served.Nodup →
   checkGo nd l ss r last served (((List.range' j k).filterMap fun s=>if (A.share d s 0).isEmpty then none else match ss[s]? with
    | none=>none
    | some x=>(best nd l x r (A.share d s 0)).map fun t=>(s,t)).map fun t=>((t.1:Int),t.2))=0:=by
 obtain ⟨d1,d2,d3⟩:=first_some hd
 have disj:∀ (s s':Nat) (x:Int),x ∈ A.share d s 0→x ∈ A.share d s' 0→s=s':=by
  have key:∀ (d:List Nat) (i:Int) (s s':Nat) (x:Int),x ∈ A.share d s i→x ∈ A.share d s' i→s=s':=by
   intro d
   induction d with
   | nil=>intro i s s' x h;cases h
   | cons y d ih =>
    intro i s s' x h h'
    rw [A.share] at h h'
    split at h
    ·rename_i e1
     split at h'
     ·rename_i e2;rw [←e1,←e2]
     ·rcases List.mem_cons.1 h with rfl | h
      ·have:=A.share_mem h';omega
      ·exact ih _ _ _ _ h h'
    ·split at h'
     ·rcases List.mem_cons.1 h' with rfl | h'
      ·have:=A.share_mem h;omega
      ·exact ih _ _ _ _ h h'
     ·exact ih _ _ _ _ h h'
  exact key d 0
 have all:∀ x:Int,0≤x→x < (r.length:Int)→∃ s,s < ss.length∧x ∈ A.share d s 0:=by
  have key:∀ (d:List Nat) (i x:Int),i≤x→x < i + d.length→∃ s ∈ d,x ∈ A.share d s i:=by
   intro d
   induction d with
   | nil=>intro i x h1 h2;rw [List.length_nil] at h2;omega
   | cons y d ih =>
    intro i x h1 h2
    rw [List.length_cons] at h2
    by_cases e:x=i
    ·exact ⟨y,List.mem_cons_self ..,by rw [A.share,if_pos rfl,e];exact List.mem_cons_self ..⟩
    ·obtain ⟨s,hs,hx⟩:=ih (i + 1) x (by omega) (by omega)
     refine ⟨s,List.mem_cons_of_mem _ hs,?_⟩
     rw [A.share]
     split
     ·exact List.mem_cons_of_mem _ hx
     ·exact hx
  intro x h1 h2
  obtain ⟨s,hs,hx⟩:=key d 0 x h1 (by omega)
  exact ⟨s,d2 s hs,hx⟩
 intro k
 induction k with
 | zero =>
  intro j last served hj _ hmem hnd
  rw [List.range'_zero]
  show (if served.length < r.length then (4:Int) else 0)=0
  rw [if_neg]
  have hsub:=len_sub (a:=(List.range r.length).map fun (i:Nat)=>(i:Int)) (b:=served) (List.pairwise_map.2 (List.nodup_range.imp fun h e=>h (by omega))) fun x hx=>by
   obtain ⟨i,hi,rfl⟩:=List.mem_map.1 hx
   rw [List.mem_range] at hi
   obtain ⟨s,hs,hx⟩:=all i (by omega) (by omega)
   exact (hmem _).2 ⟨s,by omega,hx⟩
  rw [List.length_map,List.length_range] at hsub
  omega
 | succ k ih =>
  intro j last served hj hlast hmem hnd
  rw [List.range'_succ,List.filterMap_cons]
  have hjm:j < ss.length:=by omega
  rcases d3 j hjm with he | hB
  ·rw [he]
   simp only [List.isEmpty_nil,if_true]
   refine ih (j + 1) last served (by omega) (by omega) (fun x=>?_) hnd
   rw [hmem]
   constructor
   ·rintro ⟨s,hs,hx⟩;exact ⟨s,by omega,hx⟩
   ·rintro ⟨s,hs,hx⟩
    refine ⟨s,?_,hx⟩
    rcases Nat.lt_succ_iff_lt_or_eq.1 hs with h1 | rfl
    ·exact h1
    ·rw [he] at hx;cases hx
  ·by_cases he:A.share d j 0=[]
   ·rw [he]
    simp only [List.isEmpty_nil,if_true]
    refine ih (j + 1) last served (by omega) (by omega) (fun x=>?_) hnd
    rw [hmem]
    constructor
    ·rintro ⟨s,hs,hx⟩;exact ⟨s,by omega,hx⟩
    ·rintro ⟨s,hs,hx⟩
     refine ⟨s,?_,hx⟩
     rcases Nat.lt_succ_iff_lt_or_eq.1 hs with h1 | rfl
     ·exact h1
     ·rw [he] at hx;cases hx
   ·have hbd:∀ x ∈ A.share d j 0,0≤x∧x < (r.length:Int):=fun x hx=>by have:=A.share_mem hx;omega
    obtain ⟨x,t,hs,ht⟩:=(feas_iff h (A.share_sorted _ _ _) hbd).1 hB
    have hok:=ok31_of h (List.mem_of_getElem? hs) (A.share_sorted d j 0) hbd
    obtain ⟨hck,hperm⟩:=check_best hok ht
    have hne:(A.share d j 0).isEmpty=false:=by
     cases hsh:A.share d j 0 with
     | nil=>exact absurd hsh he
     | cons a b=>rfl
    simp only [hne,hs,ht,Bool.false_eq_true,if_false,Option.map_some,List.map_cons]
    show checkGo nd l ss r last served (((j:Int),t) :: _)=0
    unfold checkGo
    simp only [if_neg (show ¬ ((j:Int) < 0) by omega),Int.toNat_natCast,hs,if_neg (show ¬ ((j:Int)≤last) by omega)]
    have hst:t.stops.isEmpty=false:=by
     cases hsh:t.stops with
     | nil=>rw [hsh] at hperm;exact absurd hperm.symm.eq_nil he
     | cons a b=>rfl
    rw [hst,hck,if_neg (by simp)]
    have hno:(t.stops.any fun k=>served.any (· == k))=false:=by
     rw [List.any_eq_false]
     intro y hy h9
     obtain ⟨z,hz,e⟩:=List.any_eq_true.1 h9
     rw [beq_iff_eq.1 e] at hz
     obtain ⟨s,hs1,hx⟩:=(hmem y).1 hz
     have:=disj s j y hx (hperm.mem_iff.1 hy)
     omega
    rw [hno,if_neg (by simp)]
    refine ih (j + 1) j (served ++ t.stops) (by omega) (by omega) (fun y=>?_) ?_
    ·rw [List.mem_append,hmem,hperm.mem_iff]
     constructor
     ·rintro (⟨s,hs1,hx⟩ | hx)
      ·exact ⟨s,by omega,hx⟩
      ·exact ⟨j,by omega,hx⟩
     ·rintro ⟨s,hs1,hx⟩
      rcases Nat.lt_succ_iff_lt_or_eq.1 hs1 with h1 | rfl
      ·exact .inl ⟨s,h1,hx⟩
      ·exact .inr hx
    ·rw [List.nodup_append]
     refine ⟨hnd,hperm.nodup_iff.2 ((A.share_sorted d j 0).imp fun h=>Int.ne_of_lt h),fun a ha b hb e=>?_⟩
     subst e
     obtain ⟨s,hs1,hx⟩:=(hmem a).1 ha
     have:=disj s j a hx (hperm.mem_iff.1 hb)
     omega
theorem plan_checks (h:(plan nd l ss r).2=0):checks nd l ss r ((plan nd l ss r).1.map fun t=>((t.1:Int),t.2))=0:=by
 obtain ⟨h1,d,h2,h3⟩:=plan_0 h
 rw [h3]
 unfold checks
 rw [if_pos h1]
 have:=checkGo_tours h1 h2 ss.length 0 (-1) [] (by omega) (by omega) (fun x=>by simp) List.nodup_nil
 rw [←List.range_eq_range'] at this
 exact this
end
end K
namespace K
section
variable {nd : Int} {l : List Ro} {ss : List S} {r : List Q}
structure Good (nd:Int) (l:List Ro) (ss:List S) (r:List Q) (t:Int × Tr):Prop where
 pos:0≤t.1
 sh:∃ x,ss[t.1.toNat]? = some x∧check nd l x r t.2=true
 ne:t.2.stops ≠ []
theorem checkGo_parts:∀ (ts:List (Int × Tr)) (last:Int) (served:List Int),checkGo nd l ss r last served ts=0 →
  (∀ t ∈ ts,last < t.1∧Good nd l ss r t)∧ts.Pairwise (fun a b=>a.1 < b.1∧∀ x ∈ a.2.stops,x ∉ b.2.stops)∧(∀ t ∈ ts,∀ x ∈ t.2.stops,x ∉ served)∧r.length≤(served ++ ts.flatMap fun t=>t.2.stops).length
 | [],last,served,h=>by
  refine ⟨fun t h=>(by cases h),List.Pairwise.nil,fun t h=>(by cases h),?_⟩
  unfold checkGo at h
  split at h
  ·cases h
  ·rw [List.flatMap_nil,List.append_nil];omega
 | t :: ts,last,served,h=>by
  unfold checkGo at h
  by_cases hneg:t.1 < 0
  ·rw [if_pos hneg] at h;cases h
  ·rw [if_neg hneg] at h
   cases hs:ss[t.1.toNat]? with
   | none=>rw [hs] at h;cases h
   | some x =>
    rw [hs] at h
    dsimp only at h
    split at h
    ·cases h
    ·rename_i h1
     split at h
     ·cases h
     ·rename_i h2
      split at h
      ·cases h
      ·rename_i h3
       rw [Bool.or_eq_true,not_or,List.isEmpty_iff] at h2
       obtain ⟨i1,i2,i3,i4⟩:=checkGo_parts ts t.1 (served ++ t.2.stops) h
       have hg:Good nd l ss r t:=⟨by omega,⟨x,hs,by simpa using h2.2⟩,h2.1⟩
       refine ⟨fun u hu=>?_,List.pairwise_cons.2 ⟨fun u hu=>⟨(i1 u hu).1,fun y hy hy2=>i3 u hu y hy2 (List.mem_append_right _ hy)⟩,i2⟩,fun u hu y hy hy2=>?_,?_⟩
       ·rcases List.mem_cons.1 hu with rfl | hu
        ·exact ⟨by omega,hg⟩
        ·exact ⟨by have:=(i1 u hu).1;omega,(i1 u hu).2⟩
       ·rcases List.mem_cons.1 hu with rfl | hu
        ·refine h3 (List.any_eq_true.2 ⟨y,hy,List.any_eq_true.2 ⟨y,hy2,beq_self_eq_true _⟩⟩)
        ·exact i3 u hu y hy (List.mem_append_left _ hy2)
       ·rw [List.flatMap_cons,←List.append_assoc];exact i4
theorem flat_nodup:∀ {ts:List (Int × Tr)},ts.Pairwise (fun a b=>a.1 < b.1∧∀ x ∈ a.2.stops,x ∉ b.2.stops)→(∀ t ∈ ts,t.2.stops.Nodup)→(ts.flatMap fun t=>t.2.stops).Nodup
 | [],_,_=>List.nodup_nil
 | t :: ts,h,hn=>by
  obtain ⟨h1,h2⟩:=List.pairwise_cons.1 h
  rw [List.flatMap_cons,List.nodup_append]
  refine ⟨hn t (List.mem_cons_self ..),flat_nodup h2 fun u hu=>hn u (List.mem_cons_of_mem _ hu),fun x hx y hy e=>?_⟩
  subst e
  obtain ⟨u,hu,hy⟩:=List.mem_flatMap.1 hy
  exact (h1 u hu).2 x hx hy
theorem checkGo_all {ts:List (Int × Tr)} (h:checkGo nd l ss r (-1) [] ts=0) {i:Int} (h0:0≤i) (h1:i < (r.length:Int)):∃ t ∈ ts,i ∈ t.2.stops:=by
 obtain ⟨g1,g2,-,g4⟩:=checkGo_parts ts _ _ h
 have hst:∀ t ∈ ts,(∀ x ∈ t.2.stops,0≤x∧x < (r.length:Int))∧t.2.stops.Nodup:=fun t ht=>by
  obtain ⟨x,-,hc⟩:=(g1 t ht).2.sh
  exact (check_run hc).2
 have hnd:=flat_nodup g2 fun t ht=>(hst t ht).2
 by_cases hi:i ∈ ts.flatMap fun t=>t.2.stops
 ·obtain ⟨t,ht,hx⟩:=List.mem_flatMap.1 hi
  exact ⟨t,ht,hx⟩
 ·have:=len_sub (a:=i :: ts.flatMap fun t=>t.2.stops) (b:=(List.range r.length).map fun (i:Nat)=>(i:Int)) (List.nodup_cons.2 ⟨hi,hnd⟩) fun x hx=>by
   have hb:0≤x∧x < (r.length:Int):=by
    rcases List.mem_cons.1 hx with rfl | hx
    ·exact ⟨h0,h1⟩
    ·obtain ⟨t,ht,hx⟩:=List.mem_flatMap.1 hx
     exact (hst t ht).1 x hx
   exact List.mem_map.2 ⟨x.toNat,by rw [List.mem_range];omega,by omega⟩
  rw [List.length_map,List.length_range,List.length_cons] at this
  rw [List.nil_append] at g4
  omega
end
end K
def Q.bare (q:Q):Q:=⟨q.node,q.room,q.kilos,q.service,q.frm,q.by_,none,0,0,q.l⟩
def S.bare (s:S):S:=⟨s.day,s.depot,s.start,s.end_,s.tare,none,0,0,s.l⟩
namespace T
theorem any_bare (r:List Q):((r.map Q.bare).any fun q=>!right q)=r.any fun q=>!right q:=by rw [List.any_map];rfl
theorem load_bare (s:S) (r:List Q) (l:List Int):load s.bare (r.map Q.bare) l=load s r l:=by
 unfold load
 rw [any_bare,List.length_map]
 rfl
theorem kilo_bare (r:List Q) (j i:Int):kilo (r.map Q.bare) j i=kilo r j i:=by
 unfold kilo
 rw [List.getElem?_map]
 cases r[i.toNat]? <;> rfl
theorem room_bare (r:List Q) (j:Int):∀ l,room (r.map Q.bare) j l=room r j l
 | []=>rfl
 | i :: l=>by rw [room,room,kilo_bare,room_bare r j l]
theorem loads_bare (r:List Q) (l:List Int):loads (r.map Q.bare) l=loads r l:=by simp only [loads,room_bare]
theorem fits_bare (s:S) (r:List Q) (l:List Int):fits s.bare (r.map Q.bare) l=fits s r l:=by
 unfold fits
 rw [load_bare,loads_bare]
 rfl
theorem weight_bare (s:S) (r:List Q) (l:List Int):weight s.bare (r.map Q.bare) l=weight s r l:=by
 unfold weight
 rw [load_bare,loads_bare]
 rfl
end T
namespace K
theorem req_bare (r:List Q) (i:Int):req (r.map Q.bare) i=(req r i).bare:=by
 unfold req
 rw [List.getElem?_map]
 cases r[i.toNat]? <;> rfl
section
variable (nd : Int) (l : List Ro) (s : S) (r : List Q)
theorem setGo_bare:∀ (v:List Int) (p:Int),setGo nd (r.map Q.bare) p v=setGo nd r p v
 | [],_=>rfl
 | k :: v,p=>by rw [setGo,setGo,setGo_bare v k,req_bare,List.length_map];rfl
theorem ok31_bare (v:List Int):ok31 nd l s.bare (r.map Q.bare) v=ok31 nd l s r v:=by
 unfold ok31
 rw [T.any_bare,setGo_bare]
 rfl
theorem begins_bare (q:Q) (all:List Int) (arr:Int):begins s.bare (r.map Q.bare) q.bare all arr=begins s r q all arr:=by
 unfold begins
 rw [T.fits_bare]
 rfl
theorem home_bare (v:List Int) (st:St) (b:Option Tr):home nd l s.bare (r.map Q.bare) v st b=home nd l s r v st b:=by
 unfold home
 rw [T.weight_bare]
 rfl
theorem onward_bare (v:List Int) (st:St) (i:Nat) (k:Int):onward nd l s.bare (r.map Q.bare) v st i k=onward nd l s r v st i k:=by
 unfold onward
 rw [T.weight_bare,req_bare,begins_bare]
 rfl
theorem go_bare (rec:St→Option Tr→Option Tr) (v:List Int) (st:St):∀ (rest:List Int) (b:Option Tr) (i:Nat),seek.go rec nd l s.bare (r.map Q.bare) v st b i rest=seek.go rec nd l s r v st b i rest
 | [],_,_=>rfl
 | k :: rest,b,i=>by
  rw [seek.go,seek.go,onward_bare]
  cases onward nd l s r v st i k with
  | none=>exact go_bare rec v st rest b (i + 1)
  | some st'=>exact go_bare rec v st rest (rec st' b) (i + 1)
theorem seek_bare (v:List Int):∀ (f:Nat) (st:St) (b:Option Tr),seek nd l s.bare (r.map Q.bare) v f st b=seek nd l s r v f st b
 | 0,_,_=>rfl
 | f + 1,st,b=>by
  rw [seek,seek,home_bare,go_bare]
  have:seek nd l s.bare (r.map Q.bare) v f=seek nd l s r v f:=by funext st b;exact seek_bare v f st b
  rw [this]
theorem best_bare (v:List Int):best nd l s.bare (r.map Q.bare) v=best nd l s r v:=seek_bare nd l s r v _ _ _
theorem bestOut_bare (v:List Int):bestOut nd l s.bare (r.map Q.bare) v=bestOut nd l s r v:=by
 unfold bestOut
 rw [ok31_bare,best_bare]
theorem label_bare (v row:List Int) (rest i:Nat) (q:Q):label nd l s.bare (r.map Q.bare) v row rest i q.bare=label nd l s r v row rest i q:=by
 unfold label labelOf arrives
 have hn:nodes (r.map Q.bare) v=nodes r v:=by
  unfold nodes
  refine List.map_congr_left fun k _=>?_
  rw [req_bare];rfl
 rw [hn,T.weight_bare,begins_bare]
 rfl
theorem rowOf_bare (v:List Int) (t:List (List Int)) (m:Nat):rowOf nd l s.bare (r.map Q.bare) v t m=rowOf nd l s r v t m:=by
 unfold rowOf
 refine List.map_congr_left fun k _=>?_
 rw [req_bare,label_bare]
theorem table_bare (v:List Int):∀ M,table nd l s.bare (r.map Q.bare) v M=table nd l s r v M
 | 0=>rfl
 | M + 1=>by rw [table,table,table_bare v M,rowOf_bare]
theorem labs_bare (v:List Int):labs nd l s.bare (r.map Q.bare) v=labs nd l s r v:=by
 unfold labs
 rw [ok31_bare,table_bare]
theorem opensAt_bare (v:List Int) (all:Nat):opensAt nd l s.bare (r.map Q.bare) v all=opensAt nd l s r v all:=by
 funext x
 unfold opensAt
 rw [req_bare,T.weight_bare]
 rfl
theorem blocks_bare (v:List Int) (b:List Lb):blocks nd l s.bare (r.map Q.bare) v b=blocks nd l s r v b:=by
 unfold blocks
 rw [ok31_bare,labs_bare,opensAt_bare]
theorem right_bare (o:List Int):right nd l s.bare (r.map Q.bare) o=right nd l s r o:=by
 unfold right
 rw [T.load_bare]
 congr 2
 congr 1
 refine List.all_congr rfl fun i=>?_
 rw [req_bare];rfl
theorem reach_bare (v:List Int) (a t node:Int):reach nd l s.bare (r.map Q.bare) v a t node=reach nd l s r v a t node:=by
 unfold reach
 rw [T.weight_bare]
 rfl
theorem leg_bare (v:List Int) (i a t:Int):leg nd l s.bare (r.map Q.bare) v i a t=leg nd l s r v i a t:=by
 unfold leg
 rw [req_bare,T.fits_bare,reach_bare]
 rfl
theorem legs_bare:∀ (o served:List Int) (a t:Int),legs nd l s.bare (r.map Q.bare) served a t o=legs nd l s r served a t o
 | [],_,_,_=>rfl
 | i :: o,served,a,t=>by
  rw [legs,legs,leg_bare,req_bare]
  rw [show (req r i).bare.node=(req r i).node from rfl,show (req r i).bare.service=(req r i).service from rfl,legs_bare o]
theorem run_bare (o:List Int):run nd l s.bare (r.map Q.bare) o=run nd l s r o:=by
 unfold run
 rw [right_bare,show s.bare.depot=s.depot from rfl,show s.bare.start=s.start from rfl,legs_bare,reach_bare]
theorem check_bare (t:Tr):check nd l s.bare (r.map Q.bare) t=check nd l s r t:=by
 unfold check
 rw [run_bare]
variable (ss : List S)
theorem pcheck_bare:pcheck nd l (ss.map S.bare) (r.map Q.bare)=pcheck nd l ss r:=by
 unfold pcheck
 rw [List.length_map,List.length_map,List.any_map,List.any_map]
 rfl
theorem feas_bare:feas nd l (ss.map S.bare) (r.map Q.bare)=feas nd l ss r:=by
 funext k v
 unfold feas
 rw [List.getElem?_map]
 cases ss[k]? with
 | none=>rfl
 | some x=>show ((bestOut nd l x.bare (r.map Q.bare) v).2 == 0)=_;rw [bestOut_bare]
theorem toursOf_bare (d:List Nat):toursOf nd l (ss.map S.bare) (r.map Q.bare) d=toursOf nd l ss r d:=by
 unfold toursOf
 rw [List.length_map]
 congr 1
 funext k
 rw [List.getElem?_map]
 cases ss[k]? with
 | none=>rfl
 | some x =>
  show (if _ then none else (best nd l x.bare (r.map Q.bare) _).map _)=_
  rw [best_bare]
theorem plan_bare:plan nd l (ss.map S.bare) (r.map Q.bare)=plan nd l ss r:=by
 unfold plan
 rw [pcheck_bare,feas_bare,List.length_map,List.length_map]
 simp only [toursOf_bare]
theorem refute_bare:refute nd l (ss.map S.bare) (r.map Q.bare)=refute nd l ss r:=by
 unfold refute
 rw [plan_bare]
 have h1:sets32 nd l (ss.map S.bare) (r.map Q.bare)=sets32 nd l ss r:=by
  unfold sets32
  rw [feas_bare,List.length_map,List.length_map]
 have h2:blk32 nd l (ss.map S.bare) (r.map Q.bare)=blk32 nd l ss r:=by
  funext b
  unfold blk32
  rw [List.getElem?_map]
  cases ss[b.1]? with
  | none=>rfl
  | some x=>show (b.1,b.2,labs nd l x.bare (r.map Q.bare) b.2)=_;rw [labs_bare]
 rw [h1,h2]
theorem checkGo_bare:∀ (ts:List (Int × Tr)) (last:Int) (served:List Int),checkGo nd l (ss.map S.bare) (r.map Q.bare) last served ts=checkGo nd l ss r last served ts
 | [],_,_=>by unfold checkGo;rw [List.length_map]
 | t :: ts,last,served=>by
  unfold checkGo
  rw [List.getElem?_map,checkGo_bare ts]
  by_cases hn:t.1 < 0
  ·simp only [if_pos hn]
  ·simp only [if_neg hn]
   cases ss[t.1.toNat]? with
   | none=>rfl
   | some x=>simp only [Option.map_some,check_bare]
theorem checks_bare (ts:List (Int × Tr)):checks nd l (ss.map S.bare) (r.map Q.bare) ts=checks nd l ss r ts:=by
 unfold checks
 rw [pcheck_bare,checkGo_bare]
theorem okBlock_bare:okBlock nd l (ss.map S.bare) (r.map Q.bare)=okBlock nd l ss r:=by
 funext b
 unfold okBlock
 rw [List.getElem?_map]
 by_cases hn:b.1 < 0
 ·simp only [if_pos hn]
 ·simp only [if_neg hn]
  cases ss[b.1.toNat]? with
  | none=>rfl
  | some x=>simp only [Option.map_some,blocks_bare]
theorem refutes_bare (bl:List (Int × List Int × List Lb)):refutes nd l (ss.map S.bare) (r.map Q.bare) bl=refutes nd l ss r bl:=by
 unfold refutes
 rw [pcheck_bare,okBlock_bare,List.length_map,List.length_map]
end
end K
namespace K
def ren (φ:Nat→Nat) (x:Int):Int:=(φ x.toNat:Int)
structure Emb (r' r:List Q) (φ:Nat→Nat):Prop where
 get:∀ i,i < r'.length→r[φ i]? = r'[i]?
 mono:∀ i j,i < j→j < r'.length→φ i < φ j
def Within (n:Nat) (v:List Int):Prop:=∀ x ∈ v,0≤x∧x < (n:Int)
section
variable {nd : Int} {l : List Ro} {s : S} {r r' : List Q} {φ : Nat → Nat}
theorem Emb.kilo (h:Emb r' r φ) (j:Int) {x:Int} (hx:0≤x∧x < (r'.length:Int)):T.kilo r j (ren φ x)=T.kilo r' j x:=by
 have:=h.get x.toNat (by omega)
 unfold T.kilo ren
 rw [Int.toNat_natCast,this]
theorem Emb.room (h:Emb r' r φ) (j:Int):∀ (v:List Int),Within r'.length v→T.room r j (v.map (ren φ))=T.room r' j v
 | [],_=>rfl
 | x :: v,hv=>by rw [List.map_cons,T.room,T.room,h.kilo j (hv x (List.mem_cons_self ..)),h.room j v fun y hy=>hv y (List.mem_cons_of_mem _ hy)]
end
end K
namespace K
section
variable {nd : Int} {l : List Ro} {s : S} {r : List Q} {o : List Int}
theorem legs_times:∀ (o v:List Int) (a t:Int),(legs nd l s r v a t o).e=0→(legs nd l s r v a t o).times.length=o.length
 | [],_,_,_,_=>rfl
 | i :: o,v,a,t,h=>by
  unfold legs at h ⊢
  split
  ·rename_i h1
   rw [if_pos h1] at h
   exact absurd h h1
  ·rename_i h1
   rw [if_neg h1] at h
   rw [List.length_cons,List.length_cons]
   exact congrArg (· + 1) (legs_times o _ _ _ h)
theorem run_times (h:(run nd l s r o).e=0):(run nd l s r o).tour.times.length=o.length:=by
 obtain ⟨-,h2,-,h4⟩:=run_ok h
 rw [h4]
 exact legs_times o [] _ _ h2
theorem next_at (h:(run nd l s r o).e=0) {k:Nat} (hk:k < o.length) {a t:Int} (hu:Upto nd l s r o (run nd l s r o).tour.times k a t):∃ i y,o[k]? = some i∧(run nd l s r o).tour.times[k]? = some y∧Next nd l s r o (run nd l s r o).tour.times k a t i y:=by
 have hl:=run_times h
 exact ⟨_,_,List.getElem?_eq_getElem hk,List.getElem?_eq_getElem (by omega),next h hu (List.getElem?_eq_getElem hk) (List.getElem?_eq_getElem (by omega))⟩
theorem upto_at (h:(run nd l s r o).e=0):∀ k,k≤o.length→∃ a t,Upto nd l s r o (run nd l s r o).tour.times k a t∧s.start≤t
 | 0,_=>⟨_,_,upto_first h _,Int.le_refl _⟩
 | k + 1,hk=>by
  obtain ⟨a,t,hu,hs⟩:=upto_at h k (by omega)
  obtain ⟨i,y,-,-,hn⟩:=next_at h (by omega) hu
  have:=hn.way
  have:=hn.bound
  exact ⟨_,_,hn.next,by omega⟩
theorem upto_end (h:(run nd l s r o).e=0):∀ (n k:Nat) (a t:Int),o.length=k + n→Upto nd l s r o (run nd l s r o).tour.times k a t→t≤(run nd l s r o).tour.end_
 | 0,k,a,t,e,hu=>by
  have e:k=o.length:=by omega
  rw [e] at hu
  have:=last h hu
  omega
 | n + 1,k,a,t,e,hu=>by
  obtain ⟨i,y,-,-,hn⟩:=next_at h (by omega) hu
  have:=hn.way
  have:=hn.bound
  have:=upto_end h n (k + 1) _ _ (by omega) hn.next
  omega
structure Rode (s:S) (r:List Q) (t:Tr):Prop where
 len:t.times.length=t.stops.length
 end_:t.end_≤s.end_
 at_:∀ (k:Nat) (i y:Int),t.stops[k]? = some i→t.times[k]? = some y→(req r i).frm≤s.day∧s.day≤(req r i).by_∧H.fit (req r i).l y (req r i).service=(y,true)∧y + (req r i).service≤t.end_∧s.start≤y
 fits:t.stops ≠ []→T.fits s r t.stops=true
theorem rode {t:Tr} (h:check nd l s r t=true):Rode s r t:=by
 unfold check at h
 simp only [Bool.and_eq_true,beq_iff_eq,decide_eq_true_eq] at h
 obtain ⟨h1,h2,h3⟩:=h
 have h0:=run_times h1
 have hat:∀ (k:Nat),k < t.stops.length→∃ i y a tt,t.stops[k]? = some i∧t.times[k]? = some y∧Next nd l s r t.stops (run nd l s r t.stops).tour.times k a tt i y∧s.start≤tt:=fun k hk=>by
  obtain ⟨a,tt,hu,hs⟩:=upto_at h1 k (by omega)
  obtain ⟨i,y,hi,hy,hn⟩:=next_at h1 hk hu
  rw [h2] at hy
  exact ⟨i,y,a,tt,hi,hy,hn,hs⟩
 refine ⟨by rw [←h2,h0],?_,fun k i y hi hy=>?_,fun hne=>?_⟩
 ·obtain ⟨a,tt,hu,-⟩:=upto_at h1 _ (Nat.le_refl _)
  have:=last h1 hu
  omega
 ·obtain ⟨i',y',a,tt,hi',hy',hn,hs⟩:=hat k (List.getElem?_eq_some_iff.1 hi).1
  rw [hi] at hi'
  rw [hy] at hy'
  injection hi' with hi'
  injection hy' with hy'
  subst hi' hy'
  obtain ⟨l1,l2,-⟩:=leg_ok hn.leg
  have hw:=hn.way
  have hb:=hn.bound
  have:=upto_end h1 (t.stops.length - (k + 1)) (k + 1) _ _ (by have:=(List.getElem?_eq_some_iff.1 hi).1;omega) hn.next
  exact ⟨l1,l2,hn.fit,by omega,by omega⟩
 ·have hpos:0 < t.stops.length:=List.length_pos_iff.2 hne
  obtain ⟨i,y,a,tt,hi,-,hn,-⟩:=hat (t.stops.length - 1) (by omega)
  obtain ⟨-,-,l3,-⟩:=leg_ok hn.leg
  have e:t.stops.take (t.stops.length - 1) ++ [i] = t.stops:=by
   rw [←take_snoc hi,show t.stops.length - 1 + 1=t.stops.length by omega,List.take_length]
  rw [e] at l3
  exact l3
end
def cnt (m:Nat) (v:List Int):List Int:=(List.range m).map fun (i:Nat)=>((v.count (i:Int):Nat):Int)
theorem cnt_len (m:Nat) (v:List Int):(cnt m v).length=m:=by unfold cnt;rw [List.length_map,List.length_range]
theorem cnt_nil (m:Nat):cnt m [] = List.replicate m 0:=by
 unfold cnt
 apply List.ext_getElem?
 intro i
 rw [List.getElem?_map,List.getElem?_replicate]
 by_cases h:i < m
 ·rw [List.getElem?_range h,if_pos h];rfl
 ·rw [List.getElem?_eq_none (by rw [List.length_range];omega),if_neg h];rfl
theorem cnt_at {m i:Nat} (v:List Int) (h:i < m):(cnt m v)[i]? = some ((v.count (i:Int):Nat):Int):=by
 unfold cnt
 rw [List.getElem?_map,List.getElem?_range h];rfl
theorem cnt_snoc (m:Nat) (v:List Int) (k:Nat):cnt m (v ++ [(k:Int)])=(cnt m v).set k (((v.count (k:Int):Nat):Int) + 1):=by
 apply List.ext_getElem?
 intro i
 rw [List.getElem?_set,cnt_len]
 by_cases h:i < m
 ·rw [cnt_at _ h,cnt_at _ h,List.count_append,List.count_singleton]
  by_cases e:k=i
  ·subst e
   rw [if_pos rfl,if_pos h]
   simp
  ·rw [if_neg e,if_neg (by simp;omega)]
   simp
 ·rw [List.getElem?_eq_none (by rw [cnt_len];omega),List.getElem?_eq_none (by rw [cnt_len];omega)]
  by_cases e:k=i
  ·rw [if_pos e,if_neg (by omega)]
  ·rw [if_neg e]
section
variable {nd : Int} {l : List Ro} {ss : List S} {r : List Q} {ts : List (Int × Tr)}
theorem checks_all (h:checks nd l ss r ts=0):pcheck nd l ss r=0∧(∀ t ∈ ts,0≤t.1∧t.2.stops ≠ []∧(∀ i ∈ t.2.stops,0≤i∧i < (r.length:Int))∧∃ x,ss[t.1.toNat]? = some x∧check nd l x r t.2=true∧Rode x r t.2)∧cnt r.length (ts.flatMap fun t=>t.2.stops)=List.replicate r.length 1∧∀ i:Int,(ts.flatMap fun t=>t.2.stops).count i≤1:=by
 unfold checks at h
 split at h
 case isFalse h1=>exact absurd h h1
 rename_i h1
 obtain ⟨g1,g2,-,-⟩:=checkGo_parts ts _ _ h
 have hnd:(ts.flatMap fun t=>t.2.stops).Nodup:=flat_nodup g2 fun t ht=>by
  obtain ⟨x,-,hc⟩:=(g1 t ht).2.sh
  exact (check_run hc).2.2
 refine ⟨h1,fun t ht=>?_,?_,fun i=>List.nodup_iff_count.1 hnd i⟩
 ·obtain ⟨-,hg⟩:=g1 t ht
  obtain ⟨x,hx,hc⟩:=hg.sh
  exact ⟨hg.pos,hg.ne,(check_run hc).2.1,x,hx,hc,rode hc⟩
 ·apply List.ext_getElem?
  intro i
  rw [List.getElem?_replicate]
  by_cases hi:i < r.length
  ·rw [cnt_at _ hi,if_pos hi]
   obtain ⟨t,ht,hx⟩:=checkGo_all h (i:=(i:Int)) (by omega) (by omega)
   have hm:(i:Int) ∈ ts.flatMap fun t=>t.2.stops:=List.mem_flatMap.2 ⟨t,ht,hx⟩
   have h2:=List.count_pos_iff.2 hm
   have h3:=List.nodup_iff_count.1 hnd (i:Int)
   have:(ts.flatMap fun t=>t.2.stops).count (i:Int)=1:=by omega
   rw [this];rfl
  ·rw [List.getElem?_eq_none (by rw [cnt_len];omega),if_neg hi]
end
end K
end Go.Proofs.YtippdjmpkafifaaGreat
