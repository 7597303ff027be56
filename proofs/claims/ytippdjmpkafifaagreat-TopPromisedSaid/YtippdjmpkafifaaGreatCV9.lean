import Derived.Test.YtippdjmpkafifaaGreatCV8
import Derived.Test.YtippdjmpkafifaaGreatCV7
namespace Go.Proofs.YtippdjmpkafifaaGreat
open Go.RowKit
namespace K
structure Case31 (nd:Int) (l:List Ro) (s:S) (r:List Q) (v:List Int):Prop where
 len:v.length≤6
 ok:∀ i ∈ v,0≤(req r i).service∧(req r i).service≤1000000∧H.right (req r i).l=true
 start:0≤s.start
 end_:s.end_≤1000000
theorem case31 {nd:Int} {l:List Ro} {s:S} {r:List Q} {v:List Int} (h:ok31 nd l s r v=true):Case31 nd l s r v:=by
 obtain ⟨-,hck,-,hrq,hl6,hgo⟩:=ok31_parts h
 obtain ⟨-,-,st0,st1,en1⟩:=check_parts hck
 refine ⟨hl6,fun i hi=>?_,st0,en1⟩
 obtain ⟨h0,h1,-⟩:=setGo_nodes _ _ hgo _ hi
 obtain ⟨q,hq⟩:∃ q,r[i.toNat]? = some q:=⟨_,List.getElem?_eq_getElem (by omega)⟩
 have hi2:i=(i.toNat:Int):=by omega
 rw [hi2,req_get hq]
 obtain ⟨-,hs,hr⟩:=right_req (hrq q (List.mem_of_getElem? hq))
 exact ⟨hs.1,hs.2,hr⟩
section
variable {nd : Int} {l : List Ro} {s : S} {r : List Q} {v : List Int}
def Step (nd:Int) (l:List Ro) (s:S) (r:List Q) (v:List Int) (a b:St):Prop:=∃ i k,v[i]? = some k∧onward nd l s r v a i k=some b
def Home (nd:Int) (l:List Ro) (s:S) (r:List Q) (v:List Int) (c:St) (t:Tr):Prop :=
 c.bits=2 ^ v.length - 1∧way nd l c.a (T.weight s r (part v c.bits)) s.depot ≠ -1∧c.t + way nd l c.a (T.weight s r (part v c.bits)) s.depot≤s.end_ ∧
  t=⟨c.stops,c.times,c.t + way nd l c.a (T.weight s r (part v c.bits)) s.depot⟩
inductive Ends (nd:Int) (l:List Ro) (s:S) (r:List Q) (v:List Int):St→Tr→Prop
 | home {c:St} {t:Tr} (h:Home nd l s r v c t):Ends nd l s r v c t
 | step {a b:St} {t:Tr} (h:Step nd l s r v a b) (h2:Ends nd l s r v b t):Ends nd l s r v a t
theorem onward_some {st st':St} {i:Nat} {k:Int} (h:onward nd l s r v st i k=some st') :
  st.bits.testBit i=false∧way nd l st.a (T.weight s r (part v st.bits)) (req r k).node ≠ -1 ∧
  (begins s r (req r k) (part v (st.bits + 2 ^ i)) (st.t + way nd l st.a (T.weight s r (part v st.bits)) (req r k).node)).2=true ∧
  st'=⟨st.bits + 2 ^ i,(req r k).node,(begins s r (req r k) (part v (st.bits + 2 ^ i)) (st.t + way nd l st.a (T.weight s r (part v st.bits)) (req r k).node)).1 + (req r k).service,
   st.stops ++ [k],st.times ++ [(begins s r (req r k) (part v (st.bits + 2 ^ i)) (st.t + way nd l st.a (T.weight s r (part v st.bits)) (req r k).node)).1]⟩:=by
 unfold onward at h
 split at h
 ·cases h
 ·rename_i h1
  split at h
  ·cases h
  ·rename_i h2
   split at h
   ·cases h
   ·rename_i h3
    injection h with h
    exact ⟨by simpa using h1,h2,by simpa using h3,h.symm⟩
theorem step_time (hc:Case31 nd l s r v) {a b:St} (h:Step nd l s r v a b):a.t≤b.t:=by
 obtain ⟨i,k,hk,ho⟩:=h
 obtain ⟨-,h2,h3,rfl⟩:=onward_some ho
 have h4:=begins_ok h3
 have h5:=way_bd nd l a.a (T.weight s r (part v a.bits)) (req r k).node
 have h6:=(hc.ok k (List.mem_of_getElem? hk)).1
 show a.t≤_ + _
 omega
theorem ends_time (hc:Case31 nd l s r v) {a:St} {t:Tr} (h:Ends nd l s r v a t):a.t≤t.end_:=by
 induction h with
 | home h =>
  obtain ⟨-,h2,-,rfl⟩:=h
  have h5:=way_bd nd l ‹St›.a (T.weight s r (part v ‹St›.bits)) s.depot
  show _≤_ + _
  omega
 | step h h2 ih=>exact Int.le_trans (step_time hc h) ih
theorem full_no_step {a b:St} (h:a.bits=2 ^ v.length - 1):¬ Step nd l s r v a b:=by
 rintro ⟨i,k,hk,ho⟩
 obtain ⟨h1,-⟩:=onward_some ho
 have hi:=(List.getElem?_eq_some_iff.1 hk).1
 rw [h,Nat.testBit_two_pow_sub_one] at h1
 simp [hi] at h1
theorem step_bits (hc:Case31 nd l s r v) {a b:St} (h:Step nd l s r v a b) (ha:a.bits < 2 ^ v.length):b.bits < 2 ^ v.length∧a.bits < b.bits:=by
 obtain ⟨i,k,hk,ho⟩:=h
 obtain ⟨h1,-,-,rfl⟩:=onward_some ho
 have hi:=(List.getElem?_eq_some_iff.1 hk).1
 have:=Nat.two_pow_pos i
 exact ⟨bits_next hc.len ha hi h1,by show a.bits < a.bits + 2 ^ i;omega⟩
structure Sees (P:Tr→Prop) (best R:Option Tr):Prop where
 sound:∀ t,R=some t→best=some t∨P t
 keeps:∀ b,best=some b→∃ t,R=some t∧t.end_≤b.end_
 least:∀ t,P t→∃ t',R=some t'∧t'.end_≤t.end_
theorem go_sees {rec:St→Option Tr→Option Tr} {st:St} (hrec:∀ st' b,Step nd l s r v st st'→Sees (Ends nd l s r v st') b (rec st' b)):∀ (rest:List Int) (i:Nat) (best:Option Tr),v.drop i=rest →
  Sees (fun t=>∃ j k st',i≤j∧v[j]? = some k∧onward nd l s r v st j k=some st'∧Ends nd l s r v st' t) best (seek.go rec nd l s r v st best i rest):=by
 intro rest
 induction rest with
 | nil =>
  intro i best hd
  refine ⟨fun t h=>.inl h,fun b h=>⟨b,h,Int.le_refl _⟩,?_⟩
  rintro t ⟨j,k,st',hj,hk,-⟩
  have h1:=(List.getElem?_eq_some_iff.1 hk).1
  have h2:v.length≤i:=by simpa using hd
  omega
 | cons k rest ih =>
  intro i best hd
  have hk:v[i]? = some k:=by
   have h1:(v.drop i)[0]? = some k:=by rw [hd];rfl
   simpa using h1
  have hd2:v.drop (i + 1)=rest:=by
   have h1:(v.drop i).drop 1=rest:=by rw [hd];rfl
   simpa [List.drop_drop] using h1
  unfold seek.go
  cases ho:onward nd l s r v st i k with
  | none =>
   obtain ⟨a1,a2,a3⟩:=ih (i + 1) best hd2
   refine ⟨fun t h=>(a1 t h).imp id ?_,a2,?_⟩
   ·rintro ⟨j,k',st',hj,h⟩
    exact ⟨j,k',st',by omega,h⟩
   ·rintro t ⟨j,k',st',hj,hk',ho',he⟩
    refine a3 t ⟨j,k',st',?_,hk',ho',he⟩
    rcases Nat.eq_or_lt_of_le hj with rfl | hj
    ·rw [hk] at hk';injection hk' with hk';subst hk';rw [ho] at ho';cases ho'
    ·omega
  | some st1 =>
   obtain ⟨b1,b2,b3⟩:=hrec st1 best ⟨i,k,hk,ho⟩
   obtain ⟨a1,a2,a3⟩:=ih (i + 1) (rec st1 best) hd2
   refine ⟨fun t h=>?_,fun b h=>?_,?_⟩
   ·rcases a1 t h with h | ⟨j,k',st',hj,h⟩
    ·exact (b1 t h).imp id fun h=>⟨i,k,st1,Nat.le_refl _,hk,ho,h⟩
    ·exact .inr ⟨j,k',st',by omega,h⟩
   ·obtain ⟨t,h1,h2⟩:=b2 b h
    obtain ⟨t',h3,h4⟩:=a2 t h1
    exact ⟨t',h3,by omega⟩
   ·rintro t ⟨j,k',st',hj,hk',ho',he⟩
    rcases Nat.eq_or_lt_of_le hj with rfl | hj
    ·rw [hk] at hk';injection hk' with hk';subst hk';rw [ho] at ho';injection ho' with ho';subst ho'
     obtain ⟨t1,h1,h2⟩:=b3 t he
     obtain ⟨t',h3,h4⟩:=a2 t1 h1
     exact ⟨t',h3,by omega⟩
    ·exact a3 t ⟨j,k',st',by omega,hk',ho',he⟩
theorem seek_sees (hc:Case31 nd l s r v):∀ (f:Nat) (st:St) (best:Option Tr),st.bits < 2 ^ v.length→2 ^ v.length≤st.bits + f→Sees (Ends nd l s r v st) best (seek nd l s r v f st best):=by
 intro f
 induction f with
 | zero=>intro st best h1 h2;omega
 | succ f ih =>
  intro st best hb hf
  unfold seek
  split
  ·rename_i hl
   obtain ⟨b,rfl,hle⟩:∃ b,best=some b∧b.end_≤st.t:=by
    cases best with
    | none=>simp [late] at hl
    | some b=>exact ⟨b,rfl,by simpa [late] using hl⟩
   exact ⟨fun t h=>.inl h,fun b' h=>⟨b',h,Int.le_refl _⟩,fun t h=>⟨b,rfl,Int.le_trans hle (ends_time hc h)⟩⟩
  ·split
   ·rename_i hl hfull
    have hends:∀ t,Ends nd l s r v st t→Home nd l s r v st t:=fun t h=>by
     cases h with
     | home h=>exact h
     | step h h2=>exact absurd h (full_no_step hfull)
    unfold home
    split
    ·rename_i h
     obtain ⟨h1,h2,h3⟩:=h
     refine ⟨fun t ht=>.inr (.home ⟨hfull,h1,h2,?_⟩),fun b hb=>⟨_,rfl,?_⟩,fun t ht=>⟨_,rfl,?_⟩⟩
     ·injection ht with ht;exact ht.symm
     ·subst hb
      simp only [better,decide_eq_true_eq] at h3
      show _ + _≤_
      omega
     ·obtain ⟨-,-,-,rfl⟩:=hends t ht
      exact Int.le_refl _
    ·rename_i h
     refine ⟨fun t h=>.inl h,fun b h=>⟨b,h,Int.le_refl _⟩,fun t ht=>?_⟩
     obtain ⟨-,h1,h2,rfl⟩:=hends t ht
     cases best with
     | none=>exact absurd ⟨h1,h2,rfl⟩ h
     | some b =>
      refine ⟨b,rfl,?_⟩
      have h3:¬ better (some b) (st.t + way nd l st.a (T.weight s r (part v st.bits)) s.depot)=true:=fun h4=>h ⟨h1,h2,h4⟩
      simp only [better,decide_eq_true_eq] at h3
      show b.end_≤_ + _
      omega
   ·rename_i hl hfull
    have hg:=go_sees (nd:=nd) (l:=l) (s:=s) (r:=r) (v:=v) (rec:=seek nd l s r v f) (st:=st) (fun st' b h=>ih st' b (step_bits hc h hb).1 (by have:=(step_bits hc h hb).2;omega)) v 0 best rfl
    refine ⟨fun t h=>(hg.sound t h).imp id ?_,hg.keeps,fun t h=>?_⟩
    ·rintro ⟨j,k,st',-,hk,ho,he⟩
     exact .step ⟨j,k,hk,ho⟩ he
    ·cases h with
     | home h=>exact absurd h.1 hfull
     | step h h2 =>
      obtain ⟨j,k,hk,ho⟩:=h
      exact hg.least t ⟨j,k,_,Nat.zero_le _,hk,ho,h2⟩
def St.first (s:S):St:=⟨0,s.depot,s.start,[],[]⟩
theorem best_sees (hc:Case31 nd l s r v):Sees (Ends nd l s r v (St.first s)) none (best nd l s r v) :=
 seek_sees hc _ _ _ (Nat.two_pow_pos _) (Nat.le_add_left _ _)
theorem best_none (hc:Case31 nd l s r v):best nd l s r v=none ↔ ∀ t,¬ Ends nd l s r v (St.first s) t:=by
 have h:=best_sees hc
 constructor
 ·intro hn t ht
  obtain ⟨t',h1,-⟩:=h.least t ht
  rw [hn] at h1;cases h1
 ·intro hn
  cases hb:best nd l s r v with
  | none=>rfl
  | some t =>
   rcases h.sound t hb with h1 | h1
   ·cases h1
   ·exact absurd h1 (hn t)
end
end K
namespace K
section
variable {nd : Int} {l : List Ro} {s : S} {r : List Q} {v : List Int}
theorem begins_mono {q:Q} {all:List Int} {x y:Int} (hr:H.right q.l=true) (hs:0≤q.service∧q.service≤1000000) (h0:0≤x) (hx:x≤y) (hok:(begins s r q all y).2=true) :
  (begins s r q all x).2=true∧(begins s r q all x).1≤(begins s r q all y).1:=by
 obtain ⟨hc,hf,he,hy0,hy1,hy2,hy3⟩:=begins_ok hok
 have hcx:¬ (s.day < q.frm∨q.by_ < s.day∨s.end_ < x∨T.fits s r all=false):=by
  rintro (h | h | h | h)
  ·exact (hc ▸ (.inl h):False)
  ·exact (hc ▸ (.inr (.inl h)):False)
  ·exact (hc ▸ (.inr (.inr (.inl (by omega)))):False)
  ·exact (hc ▸ (.inr (.inr (.inr h))):False)
 obtain ⟨g1,g2⟩:=(H.first_two hr (t:=x) (o:=y) (s:=q.service) ⟨h0,by omega⟩ hs ⟨hx,by omega⟩).1 hf
 unfold begins
 rw [if_neg hcx]
 have he2:(if s.day < q.frm∨q.by_ < s.day∨s.end_ < y∨T.fits s r all=false then ((0:Int),false) else ((H.fit q.l y q.service).1,(H.fit q.l y q.service).2 && decide ((H.fit q.l y q.service).1 + q.service≤s.end_))).1=(H.fit q.l y q.service).1:=he
 rw [he2]
 rw [he] at hy2
 simp only [Bool.and_eq_true,decide_eq_true_eq]
 exact ⟨⟨g1,by omega⟩,g2⟩
def Cand (nd:Int) (l:List Ro) (wt tn:Int) (z:List (Int × Int)) (f x:Int):Prop:=(f ≠ -1∧x=f)∨∃ p ∈ z,p.2 ≠ -1∧way nd l p.1 wt tn ≠ -1∧x=p.2 + way nd l p.1 wt tn
theorem noted_cases (y f t:Int):(y ≠ -1∧t ≠ -1∧noted y f t=t + y∧(f=-1∨t + y < f))∨(noted y f t=f∧(y ≠ -1→t ≠ -1→f ≠ -1∧f≤t + y)):=by
 by_cases h:y ≠ -1∧t ≠ -1∧(f=-1∨t + y < f)
 ·exact .inl ⟨h.1,h.2.1,by unfold noted;rw [if_pos h],h.2.2⟩
 ·refine .inr ⟨by unfold noted;rw [if_neg h],fun h1 h2=>?_⟩
  have h3:¬ (f=-1∨t + y < f):=fun h3=>h ⟨h1,h2,h3⟩
  omega
theorem firsts_least {wt tn:Int}:∀ (z:List (Int × Int)) (f:Int),-1≤f→(∀ p ∈ z,-1≤p.2) →
  (firsts nd l wt tn z f ≠ -1→Cand nd l wt tn z f (firsts nd l wt tn z f))∧(∀ x,Cand nd l wt tn z f x→firsts nd l wt tn z f ≠ -1∧firsts nd l wt tn z f≤x):=by
 intro z
 induction z with
 | nil =>
  intro f hf _
  refine ⟨fun h=>.inl ⟨h,rfl⟩,?_⟩
  rintro x (⟨h,rfl⟩ | ⟨p,hp,-⟩)
  ·exact ⟨h,Int.le_refl _⟩
  ·cases hp
 | cons p z ih =>
  intro f hf hz
  have hw:=way_bd nd l p.1 wt tn
  have hp2:=hz p (List.mem_cons_self ..)
  have hstep:firsts nd l wt tn (p :: z) f=firsts nd l wt tn z (noted (way nd l p.1 wt tn) f p.2):=rfl
  rw [hstep]
  rcases noted_cases (way nd l p.1 wt tn) f p.2 with ⟨h1,h2,he,h3⟩ | ⟨he,h3⟩
  ·rw [he]
   obtain ⟨a1,a2⟩:=ih (p.2 + way nd l p.1 wt tn) (by omega) (fun q hq=>hz q (List.mem_cons_of_mem _ hq))
   refine ⟨fun h=>?_,?_⟩
   ·rcases a1 h with ⟨-,e⟩ | ⟨q,hq,h⟩
    ·exact .inr ⟨p,List.mem_cons_self ..,h2,h1,e⟩
    ·exact .inr ⟨q,List.mem_cons_of_mem _ hq,h⟩
   ·rintro x (⟨hf1,rfl⟩ | ⟨q,hq,g1,g2,rfl⟩)
    ·have:=a2 (p.2 + way nd l p.1 wt tn) (.inl ⟨by omega,rfl⟩)
     omega
    ·rcases List.mem_cons.1 hq with rfl | hq
     ·exact a2 _ (.inl ⟨by omega,rfl⟩)
     ·exact a2 _ (.inr ⟨q,hq,g1,g2,rfl⟩)
  ·rw [he]
   obtain ⟨a1,a2⟩:=ih f hf (fun q hq=>hz q (List.mem_cons_of_mem _ hq))
   refine ⟨fun h=>?_,?_⟩
   ·rcases a1 h with h | ⟨q,hq,h⟩
    ·exact .inl h
    ·exact .inr ⟨q,List.mem_cons_of_mem _ hq,h⟩
   ·rintro x (h | ⟨q,hq,g1,g2,rfl⟩)
    ·exact a2 _ (.inl h)
    ·rcases List.mem_cons.1 hq with rfl | hq
     ·obtain ⟨f1,f2⟩:=h3 g2 g1
      have:=a2 f (.inl ⟨f1,rfl⟩)
      omega
     ·exact a2 _ (.inr ⟨q,hq,g1,g2,rfl⟩)
theorem bit_set_all:∀ m:Fin 64,∀ i:Fin 6,m.val.testBit i.val=false→(m.val + 2 ^ i.val).testBit i.val=true:=by decide +kernel
theorem bit_set {m i:Nat} (hm:m < 64) (hi:i < 6) (h:m.testBit i=false):(m + 2 ^ i).testBit i=true:=bit_set_all ⟨m,hm⟩ ⟨i,hi⟩ h
def lab (nd:Int) (l:List Ro) (s:S) (r:List Q) (v:List Int) (m i:Nat):Int:=((rowOf nd l s r v (table nd l s r v m) m)[i]?).getD (-1)
theorem lab_bd (hc:Case31 nd l s r v) (m i:Nat):-1≤lab nd l s r v m i∧lab nd l s r v m i≤1000000:=by
 unfold lab
 cases h:(rowOf nd l s r v (table nd l s r v m) m)[i]? with
 | none=>exact ⟨Int.le_refl _,by decide⟩
 | some x=>exact rowOf_bd (fun k hk=>(hc.ok k hk).1) x (List.mem_of_getElem? h)
inductive Hits (nd:Int) (l:List Ro) (s:S) (r:List Q) (v:List Int):Option Nat→St→Prop
 | first:Hits nd l s r v none (St.first s)
 | step {o:Option Nat} {a b:St} {i:Nat} {k:Int} (h:Hits nd l s r v o a) (hk:v[i]? = some k) (ho:onward nd l s r v a i k=some b):Hits nd l s r v (some i) b
theorem arrives_least (hc:Case31 nd l s r v) (rest:Nat) (q:Q) :
  (arrives nd l s r v (rowOf nd l s r v (table nd l s r v rest) rest) rest q ≠ -1→(rest=0∧way nd l s.depot (T.weight s r (part v rest)) q.node ≠ -1∧arrives nd l s r v (rowOf nd l s r v (table nd l s r v rest) rest) rest q=s.start + way nd l s.depot (T.weight s r (part v rest)) q.node) ∨
   ∃ j k,v[j]? = some k∧lab nd l s r v rest j ≠ -1∧way nd l (req r k).node (T.weight s r (part v rest)) q.node ≠ -1∧arrives nd l s r v (rowOf nd l s r v (table nd l s r v rest) rest) rest q=lab nd l s r v rest j + way nd l (req r k).node (T.weight s r (part v rest)) q.node) ∧
  (rest=0→way nd l s.depot (T.weight s r (part v rest)) q.node ≠ -1→arrives nd l s r v (rowOf nd l s r v (table nd l s r v rest) rest) rest q ≠ -1∧arrives nd l s r v (rowOf nd l s r v (table nd l s r v rest) rest) rest q≤s.start + way nd l s.depot (T.weight s r (part v rest)) q.node) ∧
  (∀ j k,v[j]? = some k→lab nd l s r v rest j ≠ -1→way nd l (req r k).node (T.weight s r (part v rest)) q.node ≠ -1 →
   arrives nd l s r v (rowOf nd l s r v (table nd l s r v rest) rest) rest q ≠ -1∧arrives nd l s r v (rowOf nd l s r v (table nd l s r v rest) rest) rest q≤lab nd l s r v rest j + way nd l (req r k).node (T.weight s r (part v rest)) q.node):=by
 have hz:∀ j k,v[j]? = some k→((nodes r v).zip (rowOf nd l s r v (table nd l s r v rest) rest))[j]? = some ((req r k).node,lab nd l s r v rest j):=fun j k hk=>by
  rw [List.getElem?_zip_eq_some]
  refine ⟨by rw [nodes,List.getElem?_map,hk];rfl,?_⟩
  have hj:=(List.getElem?_eq_some_iff.1 hk).1
  unfold lab
  rw [List.getElem?_eq_getElem (by rw [rowOf_len];exact hj),Option.getD_some]
 have hzb:∀ p ∈ (nodes r v).zip (rowOf nd l s r v (table nd l s r v rest) rest),∃ j k,v[j]? = some k∧p=((req r k).node,lab nd l s r v rest j):=fun p hp=>by
  obtain ⟨j,hj⟩:=List.mem_iff_getElem?.1 hp
  have hjl:j < v.length:=by
   have:=(List.getElem?_eq_some_iff.1 hj).1
   rw [List.length_zip,nodes,List.length_map] at this
   omega
  have h2:=hz j _ (List.getElem?_eq_getElem hjl)
  rw [hj] at h2
  injection h2 with h2
  exact ⟨j,_,List.getElem?_eq_getElem hjl,h2⟩
 have hw0:=way_bd nd l s.depot (T.weight s r (part v rest)) q.node
 have hst:=hc.start
 have hf0:(first0 nd l s (T.weight s r (part v rest)) q.node rest=-1∧¬ (rest=0∧way nd l s.depot (T.weight s r (part v rest)) q.node ≠ -1)) ∨
   (rest=0∧way nd l s.depot (T.weight s r (part v rest)) q.node ≠ -1∧first0 nd l s (T.weight s r (part v rest)) q.node rest=s.start + way nd l s.depot (T.weight s r (part v rest)) q.node):=by
  unfold first0
  by_cases h0:rest=0
  ·rw [if_pos h0]
   by_cases hw:way nd l s.depot (T.weight s r (part v rest)) q.node=-1
   ·exact .inl ⟨by rw [noted_no1 hw],fun h=>h.2 hw⟩
   ·exact .inr ⟨h0,hw,noted_yes hw (by omega) (.inl rfl)⟩
  ·rw [if_neg h0]
   exact .inl ⟨rfl,fun h=>h0 h.1⟩
 obtain ⟨a1,a2⟩:=firsts_least (nd:=nd) (l:=l) (wt:=T.weight s r (part v rest)) (tn:=q.node) ((nodes r v).zip (rowOf nd l s r v (table nd l s r v rest) rest)) (first0 nd l s (T.weight s r (part v rest)) q.node rest) (by rcases hf0 with h | h <;> omega) (fun p hp=>by
  obtain ⟨j,k,-,rfl⟩:=hzb p hp
  exact (lab_bd hc rest j).1)
 have he:arrives nd l s r v (rowOf nd l s r v (table nd l s r v rest) rest) rest q=firsts nd l (T.weight s r (part v rest)) q.node ((nodes r v).zip (rowOf nd l s r v (table nd l s r v rest) rest)) (first0 nd l s (T.weight s r (part v rest)) q.node rest):=rfl
 rw [he]
 refine ⟨fun h=>?_,fun h0 hw=>?_,fun j k hk hl hw=>a2 _ (.inr ⟨_,List.mem_of_getElem? (hz j k hk),hl,hw,rfl⟩)⟩
 ·rcases a1 h with ⟨h1,e⟩ | ⟨p,hp,h1,h2,e⟩
  ·rcases hf0 with ⟨h2,-⟩ | ⟨g1,g2,g3⟩
   ·exact absurd h2 h1
   ·exact .inl ⟨g1,g2,by rw [e,g3]⟩
  ·obtain ⟨j,k,hk,rfl⟩:=hzb p hp
   exact .inr ⟨j,k,hk,h1,h2,e⟩
 ·rcases hf0 with ⟨-,h2⟩ | ⟨g1,g2,g3⟩
  ·exact absurd ⟨h0,hw⟩ h2
  ·exact a2 _ (.inl ⟨by omega,g3.symm⟩)
theorem hits_inv (hc:Case31 nd l s r v) {o:Option Nat} {c:St} (h:Hits nd l s r v o c):c.bits < 2 ^ v.length∧(o=none→c=St.first s)∧∀ i,o=some i→c.bits.testBit i=true∧∃ k,v[i]? = some k∧c.a=(req r k).node:=by
 induction h with
 | first=>exact ⟨Nat.two_pow_pos _,fun _=>rfl,fun i e=>(nomatch e)⟩
 | step h hk ho ih =>
  rename_i o a b i k
  have hb:=step_bits hc ⟨i,k,hk,ho⟩ ih.1
  obtain ⟨h1,-,-,e⟩:=onward_some ho
  refine ⟨hb.1,fun e=>(nomatch e),fun j e2=>?_⟩
  injection e2 with e2
  subst e2
  refine ⟨?_,k,hk,by rw [e]⟩
  have hil:=(List.getElem?_eq_some_iff.1 hk).1
  have hl6:=hc.len
  have h64:a.bits < 64:=Nat.lt_of_lt_of_le ih.1 (Nat.pow_le_pow_right (by omega) hl6)
  rw [e]
  exact bit_set h64 (by omega) h1
theorem lab_least (hc:Case31 nd l s r v):∀ (m:Nat),m < 2 ^ v.length→∀ (i:Nat) (k:Int),v[i]? = some k →
  (∀ c,Hits nd l s r v (some i) c→c.bits=m→lab nd l s r v m i ≠ -1∧lab nd l s r v m i≤c.t)∧(lab nd l s r v m i ≠ -1→∃ c,Hits nd l s r v (some i) c∧c.bits=m∧c.t=lab nd l s r v m i):=by
 intro m
 induction m using Nat.strongRecOn with
 | ind m ih =>
 intro hm i k hk
 have hil:=(List.getElem?_eq_some_iff.1 hk).1
 have hl6:=hc.len
 have hm64:m < 64:=Nat.lt_of_lt_of_le hm (Nat.pow_le_pow_right (by omega) hl6)
 obtain ⟨hs0,hs1,hr⟩:=hc.ok k (List.mem_of_getElem? hk)
 have hst:=hc.start
 have hlab:lab nd l s r v m i=if m.testBit i=true then label nd l s r v (((table nd l s r v m)[m - 2 ^ i]?).getD []) (m - 2 ^ i) i (req r k) else -1:=by
  unfold lab
  rw [rowOf_at hk,Option.getD_some]
 have hpw:=Nat.two_pow_pos i
 cases hbit:m.testBit i
 ·rw [hbit] at hlab
  refine ⟨fun c h he=>?_,fun h=>absurd (by simpa using hlab) h⟩
  have:=((hits_inv hc h).2.2 i rfl).1
  rw [he,hbit] at this
  cases this
 ·rw [hbit,if_pos rfl] at hlab
  obtain ⟨hre,hrb⟩:=bit_rest hm64 (by omega) hbit
  obtain ⟨rest,hrest⟩:∃ rest,rest=m - 2 ^ i:=⟨_,rfl⟩
  rw [←hrest] at hlab hre hrb
  have hrm:rest < m:=by omega
  rw [table_at hrm,Option.getD_some] at hlab
  obtain ⟨F,hF⟩:∃ F,F=arrives nd l s r v (rowOf nd l s r v (table nd l s r v rest) rest) rest (req r k):=⟨_,rfl⟩
  have hlab2:lab nd l s r v m i=if F=-1 then -1 else if (begins s r (req r k) (part v m) F).2=true then (begins s r (req r k) (part v m) F).1 + (req r k).service else -1:=by
   rw [hlab,label,←hF,hre];rfl
  obtain ⟨f1,f2,f3⟩:=arrives_least hc rest (req r k)
  rw [←hF] at f1 f2 f3
  have hF0:F ≠ -1→0≤F:=fun h=>by
   rcases f1 h with ⟨-,h2,e⟩ | ⟨j,kj,hj,h1,h2,e⟩
   ·have:=way_bd nd l s.depot (T.weight s r (part v rest)) (req r k).node
    omega
   ·have:=way_bd nd l (req r kj).node (T.weight s r (part v rest)) (req r k).node
    have:=lab_bd hc rest j
    omega
  have ihr:=ih rest hrm (by omega)
  clear hlab
  refine ⟨fun c h he=>?_,fun h=>?_⟩
  ·cases h with
   | step h hk2 ho =>
    rename_i o a k2
    rw [hk] at hk2;injection hk2 with hk2;subst hk2
    obtain ⟨h1,h2,h3,e⟩:=onward_some ho
    have hab:a.bits=rest:=by rw [e] at he;have he:a.bits + 2 ^ i=m:=he;omega
    have hcand:F ≠ -1∧F≤a.t + way nd l a.a (T.weight s r (part v a.bits)) (req r k).node:=by
     cases o with
     | none =>
      have ha:=(hits_inv hc h).2.1 rfl
      subst ha
      have hr0:rest=0:=hab.symm
      exact f2 hr0 (by rw [←hab];exact h2) |>.imp id (fun h=>by rw [hab];exact h)
     | some j =>
      obtain ⟨-,kj,hkj,haj⟩:=(hits_inv hc h).2.2 j rfl
      obtain ⟨g1,g2⟩:=(ihr j kj hkj).1 a h hab
      rw [haj,hab] at h2 ⊢
      obtain ⟨g3,g4⟩:=f3 j kj hkj g1 h2
      exact ⟨g3,by omega⟩
    have hrm2:a.bits + 2 ^ i=m:=by omega
    rw [hrm2] at h3 e
    obtain ⟨b1,b2⟩:=begins_mono (s:=s) (r:=r) (all:=part v m) hr ⟨hs0,hs1⟩ (hF0 hcand.1) hcand.2 h3
    rw [hlab2,if_neg hcand.1,if_pos b1,e]
    obtain ⟨-,-,-,y0,y1,-,-⟩:=begins_ok b1
    refine ⟨by omega,?_⟩
    show _≤_ + _
    omega
  ·rw [hlab2] at h ⊢
   by_cases hF1:F=-1
   ·rw [if_pos hF1] at h;exact absurd rfl h
   rw [if_neg hF1] at h ⊢
   by_cases hb:(begins s r (req r k) (part v m) F).2=true
   rotate_left
   ·rw [if_neg hb] at h;exact absurd rfl h
   rw [if_pos hb]
   have mk:∀ (o:Option Nat) (a:St),Hits nd l s r v o a→a.bits=rest→way nd l a.a (T.weight s r (part v rest)) (req r k).node ≠ -1→F=a.t + way nd l a.a (T.weight s r (part v rest)) (req r k).node →
     ∃ c,Hits nd l s r v (some i) c∧c.bits=m∧c.t=(begins s r (req r k) (part v m) F).1 + (req r k).service:=fun o a ha hab hw hFe=>by
    refine ⟨_,.step ha hk (b:=⟨m,(req r k).node,(begins s r (req r k) (part v m) F).1 + (req r k).service,a.stops ++ [k],a.times ++ [(begins s r (req r k) (part v m) F).1]⟩) ?_,rfl,rfl⟩
    unfold onward
    rw [hab,hre,if_neg (by rw [hrb];simp),if_neg hw,←hFe,if_neg (by rw [hb];simp)]
   rcases f1 hF1 with ⟨h0,h2,e⟩ | ⟨j,kj,hj,h1,h2,e⟩
   ·exact mk none _ .first h0.symm h2 e
   ·obtain ⟨c,c1,c2,c3⟩:=(ihr j kj hj).2 h1
    obtain ⟨-,kj2,hkj2,haj⟩:=(hits_inv hc c1).2.2 j rfl
    rw [hj] at hkj2;injection hkj2 with hkj2;subst hkj2
    exact mk (some j) c c1 c2 (by rw [haj];exact h2) (by rw [haj,c3];exact e)
end
end K
namespace K
section
variable {nd : Int} {l : List Ro} {s : S} {r : List Q} {v : List Int}
theorem hits_ends {o:Option Nat} {c:St} {t:Tr} (h:Hits nd l s r v o c) (h2:Ends nd l s r v c t):Ends nd l s r v (St.first s) t:=by
 induction h with
 | first=>exact h2
 | step h hk ho ih=>exact ih (.step ⟨_,_,hk,ho⟩ h2)
theorem ends_hits {a:St} {t:Tr} (h:Ends nd l s r v a t):∀ o,Hits nd l s r v o a→∃ o' c,Hits nd l s r v o' c∧Home nd l s r v c t:=by
 induction h with
 | home h=>exact fun o ho=>⟨o,_,ho,h⟩
 | step h h2 ih =>
  obtain ⟨i,k,hk,ho⟩:=h
  exact fun o hh=>ih _ (.step hh hk ho)
theorem rowLabs_mem {m:Nat} {row:List Int} {k:Nat}:∀ {i:Nat},k < i→m.testBit k=true→(⟨m,k,(row[k]?).getD (-1)⟩:Lb) ∈ rowLabs m row i
 | 0,h,_=>by omega
 | i + 1,h,hb=>by
  rw [rowLabs]
  by_cases hki:k=i
  ·subst hki
   rw [if_pos hb]
   exact List.mem_append.2 (.inr (List.mem_singleton.2 rfl))
  ·exact List.mem_append.2 (.inl (rowLabs_mem (by omega) hb))
theorem tabLabs_mem {n:Nat} {t:List (List Int)} {x:Lb} {m:Nat}:∀ {M:Nat},m < M→x ∈ rowLabs m ((t[m]?).getD []) n→x ∈ tabLabs n t M
 | 0,h,_=>by omega
 | M + 1,h,hx=>by
  rw [tabLabs]
  by_cases hmM:m=M
  ·subst hmM
   exact List.mem_append.2 (.inr hx)
  ·exact List.mem_append.2 (.inl (tabLabs_mem (by omega) hx))
theorem labs_mem (h:ok31 nd l s r v=true) {m i:Nat} (hm:m < 2 ^ v.length) (hi:i < v.length) (hb:m.testBit i=true):(⟨m,i,lab nd l s r v m i⟩:Lb) ∈ labs nd l s r v:=by
 unfold labs
 rw [if_pos h]
 refine tabLabs_mem hm ?_
 rw [table_at hm,Option.getD_some]
 exact rowLabs_mem hi hb
theorem mem_labs (h:ok31 nd l s r v=true) {x:Lb} (hx:x ∈ labs nd l s r v):∃ m i:Nat,m < 2 ^ v.length∧i < v.length∧m.testBit i=true∧x=⟨m,i,lab nd l s r v m i⟩:=by
 unfold labs at hx
 rw [if_pos h] at hx
 obtain ⟨m,hm,hx⟩:=mem_tabLabs hx
 rw [table_at hm,Option.getD_some] at hx
 obtain ⟨i,hi,hb,rfl⟩:=mem_rowLabs hx
 exact ⟨m,i,hm,hi,hb,rfl⟩
theorem opens_ends (h:ok31 nd l s r v=true) (hv:v ≠ []):(labs nd l s r v).any (opensAt nd l s r v (2 ^ v.length - 1))=true ↔ ∃ t,Ends nd l s r v (St.first s) t:=by
 have hc:=case31 h
 have hl:1≤v.length:=by cases v with | nil=>exact absurd rfl hv | cons a b=>simp
 have hp:2≤2 ^ v.length:=Nat.le_trans (by decide) (Nat.pow_le_pow_right (n:=2) (by omega) hl)
 rw [List.any_eq_true]
 constructor
 ·rintro ⟨x,hx,ho⟩
  obtain ⟨m,i,hm,hi,hb,rfl⟩:=mem_labs h hx
  simp only [opensAt,opens,Bool.and_eq_true,beq_iff_eq,bne_iff_ne,decide_eq_true_eq,Int.toNat_natCast] at ho
  obtain ⟨h1,h2,h3,h4⟩:=ho
  have hmE:m=2 ^ v.length - 1:=by omega
  have hk:=List.getElem?_eq_getElem hi
  rw [hk,Option.getD_some] at h3 h4
  obtain ⟨c,c1,c2,c3⟩:=(lab_least hc m hm i _ hk).2 h2
  obtain ⟨-,k2,hk2,hca⟩:=(hits_inv hc c1).2.2 i rfl
  rw [hk] at hk2;injection hk2 with hk2;subst hk2
  have hcb:c.bits=2 ^ v.length - 1:=by rw [c2,hmE]
  exact ⟨_,hits_ends c1 (.home ⟨hcb,by rw [hca,hcb];exact h3,by rw [hca,hcb,c3];exact h4,rfl⟩)⟩
 ·rintro ⟨t,ht⟩
  obtain ⟨o,c,c1,hH⟩:=ends_hits ht none .first
  obtain ⟨g1,g2,g3,-⟩:=hH
  cases o with
  | none =>
   have:=(hits_inv hc c1).2.1 rfl
   subst this
   have g1:0=2 ^ v.length - 1:=g1
   omega
  | some i =>
   obtain ⟨hb,k,hk,hca⟩:=(hits_inv hc c1).2.2 i rfl
   have hi:=(List.getElem?_eq_some_iff.1 hk).1
   have hm:=(hits_inv hc c1).1
   obtain ⟨a1,a2⟩:=(lab_least hc c.bits hm i k hk).1 c c1 rfl
   refine ⟨_,labs_mem h hm hi hb,?_⟩
   simp only [opensAt,opens,Bool.and_eq_true,beq_iff_eq,bne_iff_ne,decide_eq_true_eq,Int.toNat_natCast]
   rw [hk,Option.getD_some,←g1,←hca]
   exact ⟨rfl,a1,g2,by omega⟩
theorem proves_law (h:ok31 nd l s r v=true) (hv:v ≠ []):blocks nd l s r v (labs nd l s r v)=(best nd l s r v).isNone:=by
 have hl:(v.length == 0)=false:=by cases v with | nil=>exact absurd rfl hv | cons a b=>simp
 have h1:blocks nd l s r v (labs nd l s r v)=!((labs nd l s r v).any (opensAt nd l s r v (2 ^ v.length - 1))):=by
  unfold blocks
  rw [h,hl,decide_eq_true rfl]
  simp
 rw [h1]
 have h2:=opens_ends h hv
 have h3:=best_none (case31 h)
 cases hb:best nd l s r v with
 | none =>
  have h4:=h3.1 hb
  cases ha:(labs nd l s r v).any (opensAt nd l s r v (2 ^ v.length - 1)) with
  | false=>rfl
  | true =>
   obtain ⟨t,ht⟩:=h2.1 ha
   exact absurd ht (h4 t)
 | some t =>
  cases ha:(labs nd l s r v).any (opensAt nd l s r v (2 ^ v.length - 1)) with
  | true=>rfl
  | false =>
   have h4:best nd l s r v=none:=h3.2 (fun t ht=>by
    have:=h2.2 ⟨t,ht⟩
    rw [ha] at this;cases this)
   rw [hb] at h4;cases h4
end
end K
namespace K
theorem setGo_iff {nd:Int} {r:List Q}:∀ (v:List Int) (p:Int),setGo nd r p v=true ↔ (∀ k ∈ v,0≤k∧k < (r.length:Int)∧p < k∧(req r k).node < nd)∧v.Pairwise (· < ·)
 | [],p=>by simp [setGo]
 | i :: v,p=>by
  simp only [setGo,Bool.and_eq_true,decide_eq_true_eq,setGo_iff v i,List.pairwise_cons]
  constructor
  ·rintro ⟨h1,h2,h3,h4,h5,h6⟩
   refine ⟨fun k hk=>?_,fun k hk=>(h5 k hk).2.2.1,h6⟩
   rcases List.mem_cons.1 hk with rfl | hk
   ·exact ⟨h1,h2,h3,h4⟩
   ·obtain ⟨a,b,c,d⟩:=h5 k hk
    exact ⟨a,b,by omega,d⟩
  ·rintro ⟨h1,h2,h3⟩
   obtain ⟨a,b,c,d⟩:=h1 i (List.mem_cons_self ..)
   refine ⟨a,b,c,d,fun k hk=>?_,h3⟩
   obtain ⟨e1,e2,e3,e4⟩:=h1 k (List.mem_cons_of_mem _ hk)
   exact ⟨e1,e2,h2 k hk,e4⟩
theorem ok31_sub {nd:Int} {l:List Ro} {s:S} {r:List Q} {v v':List Int} (h:ok31 nd l s r v=true) (hs:v'.Sublist v):ok31 nd l s r v'=true:=by
 unfold ok31 at h ⊢
 simp only [Bool.and_eq_true,beq_iff_eq,decide_eq_true_eq] at h ⊢
 obtain ⟨h1,h2,h3,h4,h5,h6⟩:=h
 obtain ⟨g1,g2⟩:=(setGo_iff v (-1)).1 h6
 exact ⟨h1,h2,h3,h4,Nat.le_trans hs.length_le h5,(setGo_iff v' (-1)).2 ⟨fun k hk=>g1 k (hs.subset hk),g2.sublist hs⟩⟩
theorem ok31_part {nd:Int} {l:List Ro} {s:S} {r:List Q} {v:List Int} (m:Nat) (h:ok31 nd l s r v=true):ok31 nd l s r (part v m)=true:=ok31_sub h (part_sub v m)
end K
theorem T.room_perm {r:List Q} {j:Int} {a b:List Int} (h:a.Perm b):T.room r j a=T.room r j b:=by
 induction h with
 | nil=>rfl
 | cons x _ ih=>simp [T.room,ih]
 | swap x y l=>simp [T.room];omega
 | trans _ _ ih1 ih2=>exact ih1.trans ih2
theorem T.load_perm {s:S} {r:List Q} {a b:List Int} (h:a.Perm b):T.load s r a=T.load s r b:=by
 have h1:T.isSet (r.length:Int) a=T.isSet (r.length:Int) b:=by
  rw [Bool.eq_iff_iff,T.isSet_iff,T.isSet_iff]
  exact ⟨fun ⟨g1,g2⟩=>⟨fun x hx=>g1 x (h.mem_iff.2 hx),h.nodup_iff.1 g2⟩,fun ⟨g1,g2⟩=>⟨fun x hx=>g1 x (h.mem_iff.1 hx),h.nodup_iff.2 g2⟩⟩
 unfold T.load
 rw [h1]
theorem T.loads_perm {r:List Q} {a b:List Int} (h:a.Perm b):T.loads r a=T.loads r b:=by
 unfold T.loads
 rw [T.room_perm h,T.room_perm h,T.room_perm h]
theorem T.weight_perm {s:S} {r:List Q} {a b:List Int} (h:a.Perm b):T.weight s r a=T.weight s r b:=by
 unfold T.weight
 rw [T.load_perm h,T.loads_perm h]
theorem T.fits_perm {s:S} {r:List Q} {a b:List Int} (h:a.Perm b):T.fits s r a=T.fits s r b:=by
 unfold T.fits
 rw [T.load_perm h,T.loads_perm h]
namespace K
theorem part_add:∀ (v:List Int) (m i:Nat) (k:Int),v[i]? = some k→m.testBit i=false→(part v (m + 2 ^ i)).Perm (part v m ++ [k])
 | [],_,_,_,h,_=>by simp at h
 | x :: r,m,0,k,h,hb=>by
  simp at h
  subst h
  rw [Nat.testBit_zero] at hb
  have h0:m % 2=0:=by simpa using hb
  have h1:(m + 2 ^ 0).testBit 0=true:=by rw [Nat.testBit_zero];simp;omega
  have h2:m.testBit 0=false:=by rw [Nat.testBit_zero];exact hb
  have h3:(m + 2 ^ 0) / 2=m / 2:=by simp;omega
  simp only [part,h1,h2,h3,if_true,Bool.false_eq_true,if_false]
  exact (List.perm_append_singleton x _).symm
 | x :: r,m,i + 1,k,h,hb=>by
  have hk:r[i]? = some k:=by simpa using h
  have hb2:(m / 2).testBit i=false:=by rw [←Nat.testBit_succ];exact hb
  have hp:=part_add r (m / 2) i k hk hb2
  have hpw:2 ^ (i + 1)=2 * 2 ^ i:=by rw [Nat.pow_succ];omega
  have h1:(m + 2 ^ (i + 1)).testBit 0=m.testBit 0:=by rw [Nat.testBit_zero,Nat.testBit_zero,hpw];simp
  have h3:(m + 2 ^ (i + 1)) / 2=m / 2 + 2 ^ i:=by rw [hpw];omega
  simp only [part,h1,h3]
  split
  ·exact hp.cons x
  ·exact hp
section
variable {nd : Int} {l : List Ro} {s : S} {r : List Q} {v : List Int}
theorem hits_stops {o:Option Nat} {c:St} (h:Hits nd l s r v o c):c.stops.Perm (part v c.bits):=by
 induction h with
 | first =>
  have h0:∀ v:List Int,part v 0=[]:=fun v=>by
   induction v with
   | nil=>rfl
   | cons x r ih=>simp [part,ih]
  show ([]:List Int).Perm (part v 0)
  rw [h0]
 | step h hk ho ih =>
  obtain ⟨h1,-,-,e⟩:=onward_some ho
  rw [e]
  exact (ih.append_right _).trans (part_add _ _ _ _ hk h1).symm
end
end K
namespace K
section
variable {nd : Int} {l : List Ro} {s : S} {r : List Q} {v : List Int}
theorem leg_of_onward {c c':St} {i:Nat} {k:Int} (hp:c.stops.Perm (part v c.bits)) (hk:v[i]? = some k) (ho:onward nd l s r v c i k=some c') :
  (leg nd l s r c.stops k c.a c.t).2=0∧c'.a=(req r k).node∧c'.t=(leg nd l s r c.stops k c.a c.t).1 + (req r k).service∧c'.stops=c.stops ++ [k]∧c'.times=c.times ++ [(leg nd l s r c.stops k c.a c.t).1]:=by
 obtain ⟨h1,h2,h3,e⟩:=onward_some ho
 have hw:T.weight s r c.stops=T.weight s r (part v c.bits):=T.weight_perm hp
 have hf:T.fits s r (c.stops ++ [k])=T.fits s r (part v (c.bits + 2 ^ i)):=T.fits_perm ((hp.append_right [k]).trans (part_add _ _ _ _ hk h1).symm)
 obtain ⟨hc,hft,he,-,-,hend,-⟩:=begins_ok h3
 have g1:¬ s.day < (req r k).frm:=fun h=>hc ▸ (.inl h)
 have g2:¬ (req r k).by_ < s.day:=fun h=>hc ▸ (.inr (.inl h))
 have g3:¬ s.end_ < c.t + way nd l c.a (T.weight s r (part v c.bits)) (req r k).node:=fun h=>hc ▸ (.inr (.inr (.inl h)))
 have g4:¬ T.fits s r (part v (c.bits + 2 ^ i))=false:=fun h=>hc ▸ (.inr (.inr (.inr h)))
 have hr:reach nd l s r c.stops c.a c.t (req r k).node=(c.t + way nd l c.a (T.weight s r (part v c.bits)) (req r k).node,0):=by
  unfold reach
  rw [hw,if_neg h2,if_neg g3]
 have hl:leg nd l s r c.stops k c.a c.t=((begins s r (req r k) (part v (c.bits + 2 ^ i)) (c.t + way nd l c.a (T.weight s r (part v c.bits)) (req r k).node)).1,0):=by
  unfold leg
  rw [if_neg (fun h=>h.elim g1 g2),if_neg (by rw [hf];exact g4),hr]
  dsimp only
  rw [if_neg (by simp),if_neg (by rw [hft];simp),if_neg (by rw [he] at hend;omega),he]
 rw [hl,e]
 exact ⟨rfl,rfl,rfl,rfl,rfl⟩
end
end K
namespace K
section
variable {nd : Int} {l : List Ro} {s : S} {r : List Q} {v : List Int}
theorem legs_snoc {k:Int}:∀ (o served:List Int) (a t:Int),(legs nd l s r served a t o).e=0→(leg nd l s r (served ++ o) k (legs nd l s r served a t o).a (legs nd l s r served a t o).t).2=0 →
  legs nd l s r served a t (o ++ [k])=⟨(legs nd l s r served a t o).times ++ [(leg nd l s r (served ++ o) k (legs nd l s r served a t o).a (legs nd l s r served a t o).t).1],(req r k).node,(leg nd l s r (served ++ o) k (legs nd l s r served a t o).a (legs nd l s r served a t o).t).1 + (req r k).service,0⟩
 | [],served,a,t,_,h2=>by
  simp only [List.append_nil,legs] at h2
  simp [legs,h2]
 | i :: o,served,a,t,h1,h2=>by
  by_cases h:(leg nd l s r served i a t).2=0
  ·have e1:legs nd l s r served a t (i :: o)=⟨(leg nd l s r served i a t).1 :: (legs nd l s r (served ++ [i]) (req r i).node ((leg nd l s r served i a t).1 + (req r i).service) o).times,(legs nd l s r (served ++ [i]) (req r i).node ((leg nd l s r served i a t).1 + (req r i).service) o).a,(legs nd l s r (served ++ [i]) (req r i).node ((leg nd l s r served i a t).1 + (req r i).service) o).t,(legs nd l s r (served ++ [i]) (req r i).node ((leg nd l s r served i a t).1 + (req r i).service) o).e⟩:=by
    conv=>lhs;unfold legs
    rw [if_neg (by rw [h];simp)]
   rw [e1] at h1 h2 ⊢
   dsimp only at h1 h2 ⊢
   have hsv:served ++ i :: o=(served ++ [i]) ++ o:=by simp
   rw [hsv] at h2 ⊢
   have ih:=legs_snoc (k:=k) o (served ++ [i]) (req r i).node ((leg nd l s r served i a t).1 + (req r i).service) h1 h2
   rw [List.cons_append]
   conv=>lhs;unfold legs
   rw [if_neg (by rw [h];simp),ih]
   rfl
  ·have e1:(legs nd l s r served a t (i :: o)).e=(leg nd l s r served i a t).2:=by
    conv=>lhs;unfold legs
    rw [if_pos h]
   rw [e1] at h1
   exact absurd h1 h
theorem hits_legs {o:Option Nat} {c:St} (h:Hits nd l s r v o c):legs nd l s r [] s.depot s.start c.stops=⟨c.times,c.a,c.t,0⟩:=by
 induction h with
 | first=>rfl
 | step h hk ho ih =>
  obtain ⟨g1,g2,g3,g4,g5⟩:=leg_of_onward (hits_stops h) hk ho
  rw [g4,legs_snoc _ _ _ _ (by rw [ih]) (by rw [ih];exact g1),ih,g2,g3,g5]
  rfl
end
end K
namespace K
theorem part_full:∀ v:List Int,part v (2 ^ v.length - 1)=v
 | []=>rfl
 | x :: r=>by
  have h1:(2 ^ (r.length + 1) - 1).testBit 0=true:=by rw [Nat.testBit_two_pow_sub_one];simp
  have hpw:2 ^ (r.length + 1)=2 * 2 ^ r.length:=by rw [Nat.pow_succ];omega
  have h2:(2 ^ (r.length + 1) - 1) / 2=2 ^ r.length - 1:=by have:=Nat.two_pow_pos r.length;omega
  simp only [part,List.length_cons,h1,h2,if_true,part_full r]
theorem right_perm {nd:Int} {l:List Ro} {s:S} {r:List Q} {a b:List Int} (h:a.Perm b) (hr:right nd l s r a=true):right nd l s r b=true:=by
 unfold right at hr ⊢
 rw [←T.load_perm h]
 simp only [Bool.and_eq_true,List.all_eq_true] at hr ⊢
 exact ⟨hr.1,hr.2.1,hr.2.2.1,fun x hx=>hr.2.2.2 x (h.mem_iff.2 hx)⟩
section
variable {nd : Int} {l : List Ro} {s : S} {r : List Q} {v : List Int}
theorem home_run (hok:ok31 nd l s r v=true) {o:Option Nat} {c:St} {t:Tr} (h:Hits nd l s r v o c) (hH:Home nd l s r v c t) :
  t.stops.Perm v∧run nd l s r t.stops=⟨t,0,t.stops.length⟩:=by
 obtain ⟨h1,h2,h3,rfl⟩:=hH
 have hp:c.stops.Perm v:=by
  have:=hits_stops h
  rw [h1,part_full] at this
  exact this
 refine ⟨hp,?_⟩
 have hr:right nd l s r c.stops=true:=by
  rw [ok31_eq] at hok
  simp only [Bool.and_eq_true] at hok
  exact right_perm hp.symm hok.2
 have hw:T.weight s r c.stops=T.weight s r (part v c.bits):=T.weight_perm (hits_stops h)
 have hl:=hits_legs h
 have hre:reach nd l s r c.stops c.a c.t s.depot=(c.t + way nd l c.a (T.weight s r (part v c.bits)) s.depot,0):=by
  unfold reach
  rw [hw,if_neg h2,if_neg (by omega)]
 show run nd l s r c.stops=_
 unfold run
 rw [hr,hl]
 dsimp only
 rw [hre,if_neg (by simp),if_neg (by simp),if_neg (by simp)]
end
end K
namespace K
section
variable {nd : Int} {l : List Ro} {s : S} {r : List Q} {v : List Int}
theorem onward_of_leg {c:St} {i:Nat} {k:Int} (hp:c.stops.Perm (part v c.bits)) (hk:v[i]? = some k) (hb:c.bits.testBit i=false) (hl:(leg nd l s r c.stops k c.a c.t).2=0):∃ c',onward nd l s r v c i k=some c':=by
 obtain ⟨l1,l2,l3,l4,l5,l6,l7⟩:=leg_ok hl
 obtain ⟨r1,-,r3,r4⟩:=reach_ok l4
 have hw:T.weight s r c.stops=T.weight s r (part v c.bits):=T.weight_perm hp
 have hf:T.fits s r (c.stops ++ [k])=T.fits s r (part v (c.bits + 2 ^ i)):=T.fits_perm ((hp.append_right [k]).trans (part_add _ _ _ _ hk hb).symm)
 rw [r3] at l5 l6 r4
 rw [hw] at r1 l5 l6 r4
 rw [hf] at l3
 have hbg:(begins s r (req r k) (part v (c.bits + 2 ^ i)) (c.t + way nd l c.a (T.weight s r (part v c.bits)) (req r k).node)).2=true:=by
  unfold begins
  rw [if_neg (by rintro (h | h | h | h) <;> first | omega | (rw [l3] at h;cases h))]
  simp only [Bool.and_eq_true,decide_eq_true_eq]
  exact ⟨l5,by omega⟩
 unfold onward
 rw [if_neg (by rw [hb];simp),if_neg r1,if_neg (by rw [hbg];simp)]
 exact ⟨_,rfl⟩
end
end K
namespace K
section
variable {nd : Int} {l : List Ro} {s : S} {r : List Q} {v : List Int}
theorem legs_snoc_inv {k:Int}:∀ (o served:List Int) (a t:Int),(legs nd l s r served a t (o ++ [k])).e=0 →
  (legs nd l s r served a t o).e=0∧(leg nd l s r (served ++ o) k (legs nd l s r served a t o).a (legs nd l s r served a t o).t).2=0
 | [],served,a,t,h=>by
  by_cases h2:(leg nd l s r served k a t).2=0
  ·simp only [List.append_nil,legs]
   exact ⟨trivial,h2⟩
  ·simp [legs,h2] at h
 | i :: o,served,a,t,h=>by
  rw [List.cons_append] at h
  by_cases h2:(leg nd l s r served i a t).2=0
  ·have e1:∀ o',legs nd l s r served a t (i :: o')=⟨(leg nd l s r served i a t).1 :: (legs nd l s r (served ++ [i]) (req r i).node ((leg nd l s r served i a t).1 + (req r i).service) o').times,(legs nd l s r (served ++ [i]) (req r i).node ((leg nd l s r served i a t).1 + (req r i).service) o').a,(legs nd l s r (served ++ [i]) (req r i).node ((leg nd l s r served i a t).1 + (req r i).service) o').t,(legs nd l s r (served ++ [i]) (req r i).node ((leg nd l s r served i a t).1 + (req r i).service) o').e⟩:=fun o'=>by
    conv=>lhs;unfold legs
    rw [if_neg (by rw [h2];simp)]
   rw [e1] at h ⊢
   dsimp only at h ⊢
   have ih:=legs_snoc_inv (k:=k) o (served ++ [i]) (req r i).node ((leg nd l s r served i a t).1 + (req r i).service) h
   rw [show served ++ i :: o=(served ++ [i]) ++ o by simp]
   exact ih
  ·have e1:(legs nd l s r served a t (i :: (o ++ [k]))).e=(leg nd l s r served i a t).2:=by
    conv=>lhs;unfold legs
    rw [if_pos h2]
   rw [e1] at h
   exact absurd h h2
theorem part_mem:∀ (v:List Int) (m i:Nat) (k:Int),v[i]? = some k→m.testBit i=true→k ∈ part v m
 | [],_,_,_,h,_=>by simp at h
 | x :: r,m,0,k,h,hb=>by
  simp at h
  subst h
  simp only [part,hb,if_true]
  exact List.mem_cons_self ..
 | x :: r,m,i + 1,k,h,hb=>by
  have hk:r[i]? = some k:=by simpa using h
  have hb2:(m / 2).testBit i=true:=by rw [←Nat.testBit_succ];exact hb
  have ih:=part_mem r (m / 2) i k hk hb2
  simp only [part]
  split
  ·exact List.mem_cons_of_mem _ ih
  ·exact ih
theorem legs_hits:∀ (n:Nat) (o:List Int),o.length=n→o.Nodup→(∀ x ∈ o,x ∈ v)→(legs nd l s r [] s.depot s.start o).e=0→∃ q c,Hits nd l s r v q c∧c.stops=o:=by
 intro n
 induction n with
 | zero =>
  intro o hn _ _ _
  have:o=[]:=List.length_eq_zero_iff.1 hn
  subst this
  exact ⟨none,_,.first,rfl⟩
 | succ n ih =>
  intro o hn hd hm he
  obtain ⟨o',k,rfl⟩:∃ o' k,o=o' ++ [k]:=by
   rcases List.eq_nil_or_concat o with rfl | ⟨o',k,h⟩
   ·simp at hn
   ·exact ⟨o',k,by simpa using h⟩
  obtain ⟨h1,h2⟩:=legs_snoc_inv o' [] _ _ he
  rw [List.nil_append] at h2
  rw [List.nodup_append] at hd
  obtain ⟨d1,-,d2⟩:=hd
  obtain ⟨q,c,hc,hs⟩:=ih o' (by simpa using hn) d1 (fun x hx=>hm x (List.mem_append.2 (.inl hx))) h1
  obtain ⟨i,hi⟩:=List.mem_iff_getElem?.1 (hm k (List.mem_append.2 (.inr (List.mem_singleton.2 rfl))))
  have hp:=hits_stops hc
  have hlg:=hits_legs hc
  rw [hs] at hlg
  rw [hlg] at h2
  have hb:c.bits.testBit i=false:=by
   cases hb:c.bits.testBit i with
   | false=>rfl
   | true =>
    have h3:=hp.mem_iff.2 (part_mem v c.bits i k hi hb)
    rw [hs] at h3
    exact absurd rfl (d2 k h3 k (List.mem_singleton.2 rfl))
  obtain ⟨c',ho⟩:=onward_of_leg hp hi hb (by rw [hs];exact h2)
  exact ⟨_,c',.step hc hi ho,by rw [(leg_of_onward hp hi ho).2.2.2.1,hs]⟩
end
end K
namespace K
theorem part_all:∀ (v:List Int) (m:Nat),m < 2 ^ v.length→(part v m).length=v.length→m=2 ^ v.length - 1
 | [],m,h,_=>by simp at h;subst h;rfl
 | x :: r,m,h,hl=>by
  have hpw:2 ^ (r.length + 1)=2 * 2 ^ r.length:=by rw [Nat.pow_succ];omega
  rw [List.length_cons,hpw] at h
  rw [List.length_cons,hpw]
  have hp:=Nat.two_pow_pos r.length
  cases hb:m.testBit 0 with
  | true =>
   simp only [part,hb,if_true,List.length_cons] at hl
   have ih:=part_all r (m / 2) (by omega) (by omega)
   rw [Nat.testBit_zero] at hb
   have:m % 2=1:=by simpa using hb
   omega
  | false =>
   simp only [part,hb,Bool.false_eq_true,if_false,List.length_cons] at hl
   have:=part_len r (m / 2)
   omega
section
variable {nd : Int} {l : List Ro} {s : S} {r : List Q} {v : List Int}
theorem run_home (hok:ok31 nd l s r v=true) {o:List Int} (hp:o.Perm v) (he:(run nd l s r o).e=0):∃ q c,Hits nd l s r v q c∧Home nd l s r v c (run nd l s r o).tour∧c.stops=o:=by
 have hc:=case31 hok
 obtain ⟨h1,h2,h3,h4⟩:=run_ok he
 have hnd:v.Nodup:=by
  rw [ok31_eq] at hok
  simp only [Bool.and_eq_true] at hok
  exact (T.isSet_iff.1 (T.load_parts (right_parts hok.2).2.1).2.1).2
 obtain ⟨q,c,hh,hs⟩:=legs_hits (nd:=nd) (l:=l) (s:=s) (r:=r) (v:=v) o.length o rfl (hp.nodup_iff.2 hnd) (fun x hx=>hp.mem_iff.1 hx) h2
 have hlg:=hits_legs hh
 rw [hs] at hlg
 have hps:=hits_stops hh
 rw [hs] at hps
 have hbits:c.bits=2 ^ v.length - 1:=part_all v c.bits (hits_inv hc hh).1 (by rw [←hps.length_eq,hp.length_eq])
 have hw:T.weight s r o=T.weight s r (part v c.bits):=T.weight_perm hps
 have hb:back nd l s r o=reach nd l s r o c.a c.t s.depot:=by unfold back all;rw [hlg]
 rw [hb] at h3
 obtain ⟨r1,-,r3,r4⟩:=reach_ok h3
 rw [r3] at r4
 rw [hw] at r1 r3 r4
 refine ⟨q,c,hh,⟨hbits,r1,r4,?_⟩,hs⟩
 rw [h4,hb,r3,hs]
 unfold all
 rw [hlg]
end
end K
namespace K
section
variable {nd : Int} {l : List Ro} {s : S} {r : List Q} {v : List Int}
theorem run_sub {o' o:List Int} (h:o'.Sublist o):∀ pre:List Int,(run nd l s r (pre ++ o)).e=0→(run nd l s r (pre ++ o')).e=0∧(run nd l s r (pre ++ o')).tour.end_≤(run nd l s r (pre ++ o)).tour.end_:=by
 induction h with
 | slnil=>exact fun pre h=>⟨h,Int.le_refl _⟩
 | cons a _ ih =>
  intro pre h
  obtain ⟨⟨h1,h2⟩,-⟩:=skips h
  obtain ⟨h3,h4⟩:=ih pre h1
  exact ⟨h3,Int.le_trans h4 h2⟩
 | cons_cons a _ ih =>
  intro pre h
  have h2:=ih (pre ++ [a])
  simp only [List.append_assoc,List.singleton_append] at h2
  exact h2 h
theorem less_law (hok:ok31 nd l s r v=true) (m:Nat) {t:Tr} (hb:best nd l s r v=some t):∃ u,best nd l s r (part v m)=some u∧u.end_≤t.end_:=by
 have hc:=case31 hok
 have hok2:=ok31_part m hok
 have hE:Ends nd l s r v (St.first s) t:=by
  rcases (best_sees hc).sound t hb with h | h
  ·cases h
  ·exact h
 obtain ⟨q,c,hh,hH⟩:=ends_hits hE none .first
 obtain ⟨hp,hr⟩:=home_run hok hh hH
 have hnd:v.Nodup:=by
  have h:=hok
  rw [ok31_eq] at h
  simp only [Bool.and_eq_true] at h
  exact (T.isSet_iff.1 (T.load_parts (right_parts h.2).2.1).2.1).2
 have hsub:=part_sub v m
 have hpf:(t.stops.filter fun x=>decide (x ∈ part v m)).Perm (part v m):=by
  have h1:=hp.filter fun x=>decide (x ∈ part v m)
  refine h1.trans ?_
  refine (List.perm_ext_iff_of_nodup (hnd.filter _) (hnd.sublist hsub)).2 fun x=>?_
  rw [List.mem_filter]
  constructor
  ·rintro ⟨-,h⟩;exact of_decide_eq_true h
  ·intro h;exact ⟨hsub.subset h,decide_eq_true h⟩
 obtain ⟨g1,g2⟩:=run_sub (nd:=nd) (l:=l) (s:=s) (r:=r) (List.filter_sublist (p:=fun x=>decide (x ∈ part v m)) (l:=t.stops)) [] (by rw [List.nil_append,hr])
 rw [List.nil_append,List.nil_append,hr] at g2
 rw [List.nil_append] at g1
 obtain ⟨q2,c2,hh2,hH2,-⟩:=run_home hok2 hpf g1
 obtain ⟨u,hu,hle⟩:=(best_sees (case31 hok2)).least _ (hits_ends hh2 (.home hH2))
 exact ⟨u,hu,Int.le_trans hle g2⟩
end
end K
namespace K
def placeGo (x:Int):List Int→Nat→Int→Int
 | [],_,p=>p
 | y :: l,i,p=>placeGo x l (i + 1) (if y=x then (i:Int) else p)
def place (v:List Int) (x:Int):Int:=placeGo x v 0 (-1)
section
variable {nd : Int} {l : List Ro} {s : S} {r : List Q} {v : List Int}
theorem hits_times (hc:Case31 nd l s r v) {q:Option Nat} {c:St} (h:Hits nd l s r v q c):c.times.length=c.stops.length∧(c.stops ≠ []→∃ i k y,q=some i∧c.stops[c.stops.length - 1]? = some k∧c.times[c.stops.length - 1]? = some y∧c.t=y + (req r k).service∧v[i]? = some k∧0≤y∧y≤1000000):=by
 induction h with
 | first=>exact ⟨rfl,fun h=>absurd rfl h⟩
 | step h hk ho ih =>
  rename_i o a b i k
  obtain ⟨-,-,h3,e⟩:=onward_some ho
  obtain ⟨b1,b2,b3,b4,b5,b6,b7⟩:=begins_ok h3
  have hsv:=(hc.ok k (List.mem_of_getElem? hk)).1
  rw [e]
  dsimp only
  refine ⟨by simp [ih.1],fun _=>⟨i,k,_,rfl,by simp,by simp [←ih.1],rfl,hk,?_,?_⟩⟩
  ·omega
  ·omega
end
end K
namespace K
section
variable {nd : Int} {l : List Ro} {s : S} {r : List Q} {v : List Int}
theorem best_tour (hok:ok31 nd l s r v=true) {t:Tr} (h:best nd l s r v=some t):t.stops.Perm v∧run nd l s r t.stops=⟨t,0,t.stops.length⟩∧t.times.length=t.stops.length:=by
 have hE:Ends nd l s r v (St.first s) t:=by
  rcases (best_sees (case31 hok)).sound t h with h | h
  ·cases h
  ·exact h
 obtain ⟨q,c,hh,hH⟩:=ends_hits hE none .first
 obtain ⟨h1,h2⟩:=home_run hok hh hH
 refine ⟨h1,h2,?_⟩
 obtain ⟨-,-,-,e⟩:=hH
 rw [e]
 exact (hits_times (case31 hok) hh).1
end
end K
namespace K
def Upto (nd:Int) (l:List Ro) (s:S) (r:List Q) (o ts:List Int) (k:Nat) (a t:Int):Prop :=
 all nd l s r o=⟨ts.take k ++ (legs nd l s r (o.take k) a t (o.drop k)).times,(legs nd l s r (o.take k) a t (o.drop k)).a,(legs nd l s r (o.take k) a t (o.drop k)).t,(legs nd l s r (o.take k) a t (o.drop k)).e⟩∧(0≤a∧a < nd)∧0≤t∧t≤s.end_
theorem upto_first {nd:Int} {l:List Ro} {s:S} {r:List Q} {o:List Int} (h:(run nd l s r o).e=0) (ts:List Int):Upto nd l s r o ts 0 s.depot s.start:=by
 obtain ⟨h1,h2,h3,h4⟩:=run_ok h
 obtain ⟨p1,p2,p3,p4⟩:=right_parts h1
 obtain ⟨-,⟨d0,d1⟩,st0,st1,-⟩:=check_parts (T.load_parts p2).1
 exact ⟨by simp [all],⟨d0,p3⟩,st0,st1⟩
structure Next (nd:Int) (l:List Ro) (s:S) (r:List Q) (o ts:List Int) (k:Nat) (a t i y:Int):Prop where
 leg:(leg nd l s r (o.take k) i a t).2=0
 time:(K.leg nd l s r (o.take k) i a t).1=y
 next:Upto nd l s r o ts (k + 1) (req r i).node (y + (req r i).service)
 way:0≤way nd l a (T.weight s r (o.take k)) (req r i).node∧t + K.way nd l a (T.weight s r (o.take k)) (req r i).node≤y
 fit:H.fit (req r i).l y (req r i).service=(y,true)
 bound:0≤y∧y + (req r i).service≤s.end_∧0≤(req r i).service
 least:∀ b,(H.fit (req r i).l b (req r i).service).2=true→(H.fit (req r i).l b (req r i).service).1=b→t + K.way nd l a (T.weight s r (o.take k)) (req r i).node≤b→y≤b
theorem next {nd:Int} {l:List Ro} {s:S} {r:List Q} {o:List Int} (h:(run nd l s r o).e=0) {k:Nat} {a t i y:Int} (hu:Upto nd l s r o (run nd l s r o).tour.times k a t) (hi:o[k]? = some i) (hy:(run nd l s r o).tour.times[k]? = some y):Next nd l s r o (run nd l s r o).tour.times k a t i y:=by
 obtain ⟨h1,h2,h3,h4⟩:=run_ok h
 obtain ⟨ts,hts⟩:∃ ts,ts=(run nd l s r o).tour.times:=⟨_,rfl⟩
 rw [←hts] at hu hy ⊢
 have hta:ts=(all nd l s r o).times:=by rw [hts,h4]
 obtain ⟨u1,u2,u3,u4⟩:=hu
 have hleg:(leg nd l s r (o.take k) i a t).2=0:=by
  by_cases e:(leg nd l s r (o.take k) i a t).2=0
  ·exact e
  ·rw [legs_no hi e] at u1
   rw [u1] at h2
   exact absurd h2 e
 have hok:=legs_ok hi hleg
 rw [hok] at u1
 have hkl:(ts.take k).length=k:=by
  have:=(List.getElem?_eq_some_iff.1 hy).1
  rw [List.length_take];omega
 have htime:(leg nd l s r (o.take k) i a t).1=y:=by
  have e:ts[k]? = some (leg nd l s r (o.take k) i a t).1:=by
   conv=>lhs;rw [hta,u1]
   simp only
   rw [List.getElem?_append_right (by omega),hkl,Nat.sub_self];rfl
  rw [hy] at e
  injection e with e;exact e.symm
 have hf:=fine_right h1 i (List.mem_of_getElem? hi)
 obtain ⟨-,-,l3,l4,l5,l6,l7⟩:=leg_ok hleg
 obtain ⟨r1,r2,r3,r4⟩:=reach_ok l4
 obtain ⟨f1,f2,f3,f4,f5⟩:=H.fit_ok l5
 rw [l6] at htime l7
 rw [htime] at f4 f5 l7
 have hfit:H.fit (req r i).l y (req r i).service=(y,true):=by
  have h2':=(H.first_two f1 (t:=(reach nd l s r (o.take k) a t (req r i).node).1) (o:=y) (by omega) f3 (by omega)).2 l5 (by rw [htime];omega)
  rw [htime] at h2'
  exact Prod.ext h2'.2 h2'.1
 refine ⟨hleg,by rw [l6];exact htime,⟨?_,hf.1,by omega,l7⟩,⟨r2,by omega⟩,hfit,⟨by omega,l7,hf.2⟩,?_⟩
 ·rw [u1,take_snoc hy,l6,htime]
  simp
 ·intro b hb1 hb2 hb3
  obtain ⟨g1,g2,g3,g4,g5⟩:=H.fit_ok hb1
  have:=((H.first_two f1 (t:=(reach nd l s r (o.take k) a t (req r i).node).1) (o:=b) (by omega) f3 (by omega)).1 hb1).2
  rw [htime,hb2] at this
  exact this
theorem last {nd:Int} {l:List Ro} {s:S} {r:List Q} {o:List Int} (h:(run nd l s r o).e=0) {a t:Int} (hu:Upto nd l s r o (run nd l s r o).tour.times o.length a t) :
  0≤way nd l a (T.weight s r o) s.depot∧(run nd l s r o).tour.end_=t + way nd l a (T.weight s r o) s.depot∧(run nd l s r o).tour.end_≤s.end_:=by
 obtain ⟨h1,h2,h3,h4⟩:=run_ok h
 obtain ⟨u1,-⟩:=hu
 rw [List.take_length,List.drop_length] at u1
 have ea:(all nd l s r o).a=a:=by rw [u1];rfl
 have et:(all nd l s r o).t=t:=by rw [u1];rfl
 unfold back at h3
 rw [ea,et] at h3
 obtain ⟨r1,r2,r3,r4⟩:=reach_ok h3
 have e:(run nd l s r o).tour.end_=(reach nd l s r o a t s.depot).1:=by
  rw [h4];unfold back;rw [ea,et]
 rw [e]
 exact ⟨r2,r3,r4⟩
end K
end Go.Proofs.YtippdjmpkafifaaGreat
