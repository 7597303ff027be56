import Derived.Test.YtippdjmpkafifaaTA6
import Derived.Test.YtippdjmpkafifaaTA5
namespace Go.Proofs.Ytippdjmpkafifaa
open Go.RowKit
namespace K
structure Case31 (nd:Int) (l:List Ro) (s:S) (r:List Q) (v:List Int):Prop where
 len:v.length≤6
 ok:∀ i ∈ v,0≤(req r i).service∧(req r i).service≤1000000∧H.right (req r i).l=true
 start:0≤s.start
 end_:s.end_≤1000000
theorem case31 {nd:Int} {l:List Ro} {s:S} {r:List Q} {v:List Int} (h:ok31 nd l s r v=true):Case31 nd l s r v:=by
 obtain ⟨-,hck,-,hrq,hl6,hgo⟩:=ok31_parts h
 obtain ⟨-,-,st0,st1,en1⟩:=check_parts hck
 refine ⟨hl6,fun i hi=>?_,st0,en1⟩
 obtain ⟨h0,h1,-⟩:=setGo_nodes _ _ hgo _ hi
 obtain ⟨q,hq⟩:∃ q,r[i.toNat]? = some q:=⟨_,List.getElem?_eq_getElem (by omega)⟩
 have hi2:i=(i.toNat:Int):=by omega
 rw [hi2,req_get hq]
 obtain ⟨-,hs,hr⟩:=right_req (hrq q (List.mem_of_getElem? hq))
 exact ⟨hs.1,hs.2,hr⟩
section
variable {nd : Int} {l : List Ro} {s : S} {r : List Q} {v : List Int}
def Step (nd:Int) (l:List Ro) (s:S) (r:List Q) (v:List Int) (a b:St):Prop:=∃ i k,v[i]? = some k∧onward nd l s r v a i k=some b
def Home (nd:Int) (l:List Ro) (s:S) (r:List Q) (v:List Int) (c:St) (t:Tr):Prop :=
 c.bits=2 ^ v.length - 1∧way nd l c.a (T.weight s r (part v c.bits)) s.depot ≠ -1∧c.t + way nd l c.a (T.weight s r (part v c.bits)) s.depot≤s.end_ ∧
  t=⟨c.stops,c.times,c.t + way nd l c.a (T.weight s r (part v c.bits)) s.depot⟩
inductive Ends (nd:Int) (l:List Ro) (s:S) (r:List Q) (v:List Int):St→Tr→Prop
 | home {c:St} {t:Tr} (h:Home nd l s r v c t):Ends nd l s r v c t
 | step {a b:St} {t:Tr} (h:Step nd l s r v a b) (h2:Ends nd l s r v b t):Ends nd l s r v a t
theorem onward_some {st st':St} {i:Nat} {k:Int} (h:onward nd l s r v st i k=some st') :
  st.bits.testBit i=false∧way nd l st.a (T.weight s r (part v st.bits)) (req r k).node ≠ -1 ∧
  (begins s r (req r k) (part v (st.bits + 2 ^ i)) (st.t + way nd l st.a (T.weight s r (part v st.bits)) (req r k).node)).2=true ∧
  st'=⟨st.bits + 2 ^ i,(req r k).node,(begins s r (req r k) (part v (st.bits + 2 ^ i)) (st.t + way nd l st.a (T.weight s r (part v st.bits)) (req r k).node)).1 + (req r k).service,
   st.stops ++ [k],st.times ++ [(begins s r (req r k) (part v (st.bits + 2 ^ i)) (st.t + way nd l st.a (T.weight s r (part v st.bits)) (req r k).node)).1]⟩:=by
 unfold onward at h
 split at h
 ·cases h
 ·rename_i h1
  split at h
  ·cases h
  ·rename_i h2
   split at h
   ·cases h
   ·rename_i h3
    injection h with h
    exact ⟨by simpa using h1,h2,by simpa using h3,h.symm⟩
theorem step_time (hc:Case31 nd l s r v) {a b:St} (h:Step nd l s r v a b):a.t≤b.t:=by
 obtain ⟨i,k,hk,ho⟩:=h
 obtain ⟨-,h2,h3,rfl⟩:=onward_some ho
 have h4:=begins_ok h3
 have h5:=way_bd nd l a.a (T.weight s r (part v a.bits)) (req r k).node
 have h6:=(hc.ok k (List.mem_of_getElem? hk)).1
 show a.t≤_ + _
 omega
theorem ends_time (hc:Case31 nd l s r v) {a:St} {t:Tr} (h:Ends nd l s r v a t):a.t≤t.end_:=by
 induction h with
 | home h =>
  obtain ⟨-,h2,-,rfl⟩:=h
  have h5:=way_bd nd l ‹St›.a (T.weight s r (part v ‹St›.bits)) s.depot
  show _≤_ + _
  omega
 | step h h2 ih=>exact Int.le_trans (step_time hc h) ih
theorem full_no_step {a b:St} (h:a.bits=2 ^ v.length - 1):¬ Step nd l s r v a b:=by
 rintro ⟨i,k,hk,ho⟩
 obtain ⟨h1,-⟩:=onward_some ho
 have hi:=(List.getElem?_eq_some_iff.1 hk).1
 rw [h,Nat.testBit_two_pow_sub_one] at h1
 simp [hi] at h1
theorem step_bits (hc:Case31 nd l s r v) {a b:St} (h:Step nd l s r v a b) (ha:a.bits < 2 ^ v.length):b.bits < 2 ^ v.length∧a.bits < b.bits:=by
 obtain ⟨i,k,hk,ho⟩:=h
 obtain ⟨h1,-,-,rfl⟩:=onward_some ho
 have hi:=(List.getElem?_eq_some_iff.1 hk).1
 have:=Nat.two_pow_pos i
 exact ⟨bits_next hc.len ha hi h1,by show a.bits < a.bits + 2 ^ i;omega⟩
structure Sees (P:Tr→Prop) (best R:Option Tr):Prop where
 sound:∀ t,R=some t→best=some t∨P t
 keeps:∀ b,best=some b→∃ t,R=some t∧t.end_≤b.end_
 least:∀ t,P t→∃ t',R=some t'∧t'.end_≤t.end_
theorem go_sees {rec:St→Option Tr→Option Tr} {st:St} (hrec:∀ st' b,Step nd l s r v st st'→Sees (Ends nd l s r v st') b (rec st' b)):∀ (rest:List Int) (i:Nat) (best:Option Tr),v.drop i=rest →
  Sees (fun t=>∃ j k st',i≤j∧v[j]? = some k∧onward nd l s r v st j k=some st'∧Ends nd l s r v st' t) best (seek.go rec nd l s r v st best i rest):=by
 intro rest
 induction rest with
 | nil =>
  intro i best hd
  refine ⟨fun t h=>.inl h,fun b h=>⟨b,h,Int.le_refl _⟩,?_⟩
  rintro t ⟨j,k,st',hj,hk,-⟩
  have h1:=(List.getElem?_eq_some_iff.1 hk).1
  have h2:v.length≤i:=by simpa using hd
  omega
 | cons k rest ih =>
  intro i best hd
  have hk:v[i]? = some k:=by
   have h1:(v.drop i)[0]? = some k:=by rw [hd];rfl
   simpa using h1
  have hd2:v.drop (i + 1)=rest:=by
   have h1:(v.drop i).drop 1=rest:=by rw [hd];rfl
   simpa [List.drop_drop] using h1
  unfold seek.go
  cases ho:onward nd l s r v st i k with
  | none =>
   obtain ⟨a1,a2,a3⟩:=ih (i + 1) best hd2
   refine ⟨fun t h=>(a1 t h).imp id ?_,a2,?_⟩
   ·rintro ⟨j,k',st',hj,h⟩
    exact ⟨j,k',st',by omega,h⟩
   ·rintro t ⟨j,k',st',hj,hk',ho',he⟩
    refine a3 t ⟨j,k',st',?_,hk',ho',he⟩
    rcases Nat.eq_or_lt_of_le hj with rfl | hj
    ·rw [hk] at hk';injection hk' with hk';subst hk';rw [ho] at ho';cases ho'
    ·omega
  | some st1 =>
   obtain ⟨b1,b2,b3⟩:=hrec st1 best ⟨i,k,hk,ho⟩
   obtain ⟨a1,a2,a3⟩:=ih (i + 1) (rec st1 best) hd2
   refine ⟨fun t h=>?_,fun b h=>?_,?_⟩
   ·rcases a1 t h with h | ⟨j,k',st',hj,h⟩
    ·exact (b1 t h).imp id fun h=>⟨i,k,st1,Nat.le_refl _,hk,ho,h⟩
    ·exact .inr ⟨j,k',st',by omega,h⟩
   ·obtain ⟨t,h1,h2⟩:=b2 b h
    obtain ⟨t',h3,h4⟩:=a2 t h1
    exact ⟨t',h3,by omega⟩
   ·rintro t ⟨j,k',st',hj,hk',ho',he⟩
    rcases Nat.eq_or_lt_of_le hj with rfl | hj
    ·rw [hk] at hk';injection hk' with hk';subst hk';rw [ho] at ho';injection ho' with ho';subst ho'
     obtain ⟨t1,h1,h2⟩:=b3 t he
     obtain ⟨t',h3,h4⟩:=a2 t1 h1
     exact ⟨t',h3,by omega⟩
    ·exact a3 t ⟨j,k',st',by omega,hk',ho',he⟩
theorem seek_sees (hc:Case31 nd l s r v):∀ (f:Nat) (st:St) (best:Option Tr),st.bits < 2 ^ v.length→2 ^ v.length≤st.bits + f→Sees (Ends nd l s r v st) best (seek nd l s r v f st best):=by
 intro f
 induction f with
 | zero=>intro st best h1 h2;omega
 | succ f ih =>
  intro st best hb hf
  unfold seek
  split
  ·rename_i hl
   obtain ⟨b,rfl,hle⟩:∃ b,best=some b∧b.end_≤st.t:=by
    cases best with
    | none=>simp [late] at hl
    | some b=>exact ⟨b,rfl,by simpa [late] using hl⟩
   exact ⟨fun t h=>.inl h,fun b' h=>⟨b',h,Int.le_refl _⟩,fun t h=>⟨b,rfl,Int.le_trans hle (ends_time hc h)⟩⟩
  ·split
   ·rename_i hl hfull
    have hends:∀ t,Ends nd l s r v st t→Home nd l s r v st t:=fun t h=>by
     cases h with
     | home h=>exact h
     | step h h2=>exact absurd h (full_no_step hfull)
    unfold home
    split
    ·rename_i h
     obtain ⟨h1,h2,h3⟩:=h
     refine ⟨fun t ht=>.inr (.home ⟨hfull,h1,h2,?_⟩),fun b hb=>⟨_,rfl,?_⟩,fun t ht=>⟨_,rfl,?_⟩⟩
     ·injection ht with ht;exact ht.symm
     ·subst hb
      simp only [better,decide_eq_true_eq] at h3
      show _ + _≤_
      omega
     ·obtain ⟨-,-,-,rfl⟩:=hends t ht
      exact Int.le_refl _
    ·rename_i h
     refine ⟨fun t h=>.inl h,fun b h=>⟨b,h,Int.le_refl _⟩,fun t ht=>?_⟩
     obtain ⟨-,h1,h2,rfl⟩:=hends t ht
     cases best with
     | none=>exact absurd ⟨h1,h2,rfl⟩ h
     | some b =>
      refine ⟨b,rfl,?_⟩
      have h3:¬ better (some b) (st.t + way nd l st.a (T.weight s r (part v st.bits)) s.depot)=true:=fun h4=>h ⟨h1,h2,h4⟩
      simp only [better,decide_eq_true_eq] at h3
      show b.end_≤_ + _
      omega
   ·rename_i hl hfull
    have hg:=go_sees (nd:=nd) (l:=l) (s:=s) (r:=r) (v:=v) (rec:=seek nd l s r v f) (st:=st) (fun st' b h=>ih st' b (step_bits hc h hb).1 (by have:=(step_bits hc h hb).2;omega)) v 0 best rfl
    refine ⟨fun t h=>(hg.sound t h).imp id ?_,hg.keeps,fun t h=>?_⟩
    ·rintro ⟨j,k,st',-,hk,ho,he⟩
     exact .step ⟨j,k,hk,ho⟩ he
    ·cases h with
     | home h=>exact absurd h.1 hfull
     | step h h2 =>
      obtain ⟨j,k,hk,ho⟩:=h
      exact hg.least t ⟨j,k,_,Nat.zero_le _,hk,ho,h2⟩
def St.first (s:S):St:=⟨0,s.depot,s.start,[],[]⟩
theorem best_sees (hc:Case31 nd l s r v):Sees (Ends nd l s r v (St.first s)) none (best nd l s r v) :=
 seek_sees hc _ _ _ (Nat.two_pow_pos _) (Nat.le_add_left _ _)
end
end K
namespace K
section
variable {nd : Int} {l : List Ro} {s : S} {r : List Q} {v : List Int}
theorem bit_set_all:∀ m:Fin 64,∀ i:Fin 6,m.val.testBit i.val=false→(m.val + 2 ^ i.val).testBit i.val=true:=by decide +kernel
theorem bit_set {m i:Nat} (hm:m < 64) (hi:i < 6) (h:m.testBit i=false):(m + 2 ^ i).testBit i=true:=bit_set_all ⟨m,hm⟩ ⟨i,hi⟩ h
inductive Hits (nd:Int) (l:List Ro) (s:S) (r:List Q) (v:List Int):Option Nat→St→Prop
 | first:Hits nd l s r v none (St.first s)
 | step {o:Option Nat} {a b:St} {i:Nat} {k:Int} (h:Hits nd l s r v o a) (hk:v[i]? = some k) (ho:onward nd l s r v a i k=some b):Hits nd l s r v (some i) b
theorem hits_inv (hc:Case31 nd l s r v) {o:Option Nat} {c:St} (h:Hits nd l s r v o c):c.bits < 2 ^ v.length∧(o=none→c=St.first s)∧∀ i,o=some i→c.bits.testBit i=true∧∃ k,v[i]? = some k∧c.a=(req r k).node:=by
 induction h with
 | first=>exact ⟨Nat.two_pow_pos _,fun _=>rfl,fun i e=>(nomatch e)⟩
 | step h hk ho ih =>
  rename_i o a b i k
  have hb:=step_bits hc ⟨i,k,hk,ho⟩ ih.1
  obtain ⟨h1,-,-,e⟩:=onward_some ho
  refine ⟨hb.1,fun e=>(nomatch e),fun j e2=>?_⟩
  injection e2 with e2
  subst e2
  refine ⟨?_,k,hk,by rw [e]⟩
  have hil:=(List.getElem?_eq_some_iff.1 hk).1
  have hl6:=hc.len
  have h64:a.bits < 64:=Nat.lt_of_lt_of_le ih.1 (Nat.pow_le_pow_right (by omega) hl6)
  rw [e]
  exact bit_set h64 (by omega) h1
end
end K
namespace K
section
variable {nd : Int} {l : List Ro} {s : S} {r : List Q} {v : List Int}
theorem hits_ends {o:Option Nat} {c:St} {t:Tr} (h:Hits nd l s r v o c) (h2:Ends nd l s r v c t):Ends nd l s r v (St.first s) t:=by
 induction h with
 | first=>exact h2
 | step h hk ho ih=>exact ih (.step ⟨_,_,hk,ho⟩ h2)
theorem ends_hits {a:St} {t:Tr} (h:Ends nd l s r v a t):∀ o,Hits nd l s r v o a→∃ o' c,Hits nd l s r v o' c∧Home nd l s r v c t:=by
 induction h with
 | home h=>exact fun o ho=>⟨o,_,ho,h⟩
 | step h h2 ih =>
  obtain ⟨i,k,hk,ho⟩:=h
  exact fun o hh=>ih _ (.step hh hk ho)
end
end K
namespace K
theorem setGo_iff {nd:Int} {r:List Q}:∀ (v:List Int) (p:Int),setGo nd r p v=true ↔ (∀ k ∈ v,0≤k∧k < (r.length:Int)∧p < k∧(req r k).node < nd)∧v.Pairwise (· < ·)
 | [],p=>by simp [setGo]
 | i :: v,p=>by
  simp only [setGo,Bool.and_eq_true,decide_eq_true_eq,setGo_iff v i,List.pairwise_cons]
  constructor
  ·rintro ⟨h1,h2,h3,h4,h5,h6⟩
   refine ⟨fun k hk=>?_,fun k hk=>(h5 k hk).2.2.1,h6⟩
   rcases List.mem_cons.1 hk with rfl | hk
   ·exact ⟨h1,h2,h3,h4⟩
   ·obtain ⟨a,b,c,d⟩:=h5 k hk
    exact ⟨a,b,by omega,d⟩
  ·rintro ⟨h1,h2,h3⟩
   obtain ⟨a,b,c,d⟩:=h1 i (List.mem_cons_self ..)
   refine ⟨a,b,c,d,fun k hk=>?_,h3⟩
   obtain ⟨e1,e2,e3,e4⟩:=h1 k (List.mem_cons_of_mem _ hk)
   exact ⟨e1,e2,h2 k hk,e4⟩
theorem ok31_sub {nd:Int} {l:List Ro} {s:S} {r:List Q} {v v':List Int} (h:ok31 nd l s r v=true) (hs:v'.Sublist v):ok31 nd l s r v'=true:=by
 unfold ok31 at h ⊢
 simp only [Bool.and_eq_true,beq_iff_eq,decide_eq_true_eq] at h ⊢
 obtain ⟨h1,h2,h3,h4,h5,h6⟩:=h
 obtain ⟨g1,g2⟩:=(setGo_iff v (-1)).1 h6
 exact ⟨h1,h2,h3,h4,Nat.le_trans hs.length_le h5,(setGo_iff v' (-1)).2 ⟨fun k hk=>g1 k (hs.subset hk),g2.sublist hs⟩⟩
theorem ok31_part {nd:Int} {l:List Ro} {s:S} {r:List Q} {v:List Int} (m:Nat) (h:ok31 nd l s r v=true):ok31 nd l s r (part v m)=true:=ok31_sub h (part_sub v m)
end K
theorem T.room_perm {r:List Q} {j:Int} {a b:List Int} (h:a.Perm b):T.room r j a=T.room r j b:=by
 induction h with
 | nil=>rfl
 | cons x _ ih=>simp [T.room,ih]
 | swap x y l=>simp [T.room];omega
 | trans _ _ ih1 ih2=>exact ih1.trans ih2
theorem T.load_perm {s:S} {r:List Q} {a b:List Int} (h:a.Perm b):T.load s r a=T.load s r b:=by
 have h1:T.isSet (r.length:Int) a=T.isSet (r.length:Int) b:=by
  rw [Bool.eq_iff_iff,T.isSet_iff,T.isSet_iff]
  exact ⟨fun ⟨g1,g2⟩=>⟨fun x hx=>g1 x (h.mem_iff.2 hx),h.nodup_iff.1 g2⟩,fun ⟨g1,g2⟩=>⟨fun x hx=>g1 x (h.mem_iff.1 hx),h.nodup_iff.2 g2⟩⟩
 unfold T.load
 rw [h1]
theorem T.loads_perm {r:List Q} {a b:List Int} (h:a.Perm b):T.loads r a=T.loads r b:=by
 unfold T.loads
 rw [T.room_perm h,T.room_perm h,T.room_perm h]
theorem T.weight_perm {s:S} {r:List Q} {a b:List Int} (h:a.Perm b):T.weight s r a=T.weight s r b:=by
 unfold T.weight
 rw [T.load_perm h,T.loads_perm h]
theorem T.fits_perm {s:S} {r:List Q} {a b:List Int} (h:a.Perm b):T.fits s r a=T.fits s r b:=by
 unfold T.fits
 rw [T.load_perm h,T.loads_perm h]
namespace K
theorem part_add:∀ (v:List Int) (m i:Nat) (k:Int),v[i]? = some k→m.testBit i=false→(part v (m + 2 ^ i)).Perm (part v m ++ [k])
 | [],_,_,_,h,_=>by simp at h
 | x :: r,m,0,k,h,hb=>by
  simp at h
  subst h
  rw [Nat.testBit_zero] at hb
  have h0:m % 2=0:=by simpa using hb
  have h1:(m + 2 ^ 0).testBit 0=true:=by rw [Nat.testBit_zero];simp;omega
  have h2:m.testBit 0=false:=by rw [Nat.testBit_zero];exact hb
  have h3:(m + 2 ^ 0) / 2=m / 2:=by simp;omega
  simp only [part,h1,h2,h3,if_true,Bool.false_eq_true,if_false]
  exact (List.perm_append_singleton x _).symm
 | x :: r,m,i + 1,k,h,hb=>by
  have hk:r[i]? = some k:=by simpa using h
  have hb2:(m / 2).testBit i=false:=by rw [←Nat.testBit_succ];exact hb
  have hp:=part_add r (m / 2) i k hk hb2
  have hpw:2 ^ (i + 1)=2 * 2 ^ i:=by rw [Nat.pow_succ];omega
  have h1:(m + 2 ^ (i + 1)).testBit 0=m.testBit 0:=by rw [Nat.testBit_zero,Nat.testBit_zero,hpw];simp
  have h3:(m + 2 ^ (i + 1)) / 2=m / 2 + 2 ^ i:=by rw [hpw];omega
  simp only [part,h1,h3]
  split
  ·exact hp.cons x
  ·exact hp
section
variable {nd : Int} {l : List Ro} {s : S} {r : List Q} {v : List Int}
theorem hits_stops {o:Option Nat} {c:St} (h:Hits nd l s r v o c):c.stops.Perm (part v c.bits):=by
 induction h with
 | first =>
  have h0:∀ v:List Int,part v 0=[]:=fun v=>by
   induction v with
   | nil=>rfl
   | cons x r ih=>simp [part,ih]
  show ([]:List Int).Perm (part v 0)
  rw [h0]
 | step h hk ho ih =>
  obtain ⟨h1,-,-,e⟩:=onward_some ho
  rw [e]
  exact (ih.append_right _).trans (part_add _ _ _ _ hk h1).symm
end
end K
namespace K
section
variable {nd : Int} {l : List Ro} {s : S} {r : List Q} {v : List Int}
theorem leg_of_onward {c c':St} {i:Nat} {k:Int} (hp:c.stops.Perm (part v c.bits)) (hk:v[i]? = some k) (ho:onward nd l s r v c i k=some c') :
  (leg nd l s r c.stops k c.a c.t).2=0∧c'.a=(req r k).node∧c'.t=(leg nd l s r c.stops k c.a c.t).1 + (req r k).service∧c'.stops=c.stops ++ [k]∧c'.times=c.times ++ [(leg nd l s r c.stops k c.a c.t).1]:=by
 obtain ⟨h1,h2,h3,e⟩:=onward_some ho
 have hw:T.weight s r c.stops=T.weight s r (part v c.bits):=T.weight_perm hp
 have hf:T.fits s r (c.stops ++ [k])=T.fits s r (part v (c.bits + 2 ^ i)):=T.fits_perm ((hp.append_right [k]).trans (part_add _ _ _ _ hk h1).symm)
 obtain ⟨hc,hft,he,-,-,hend,-⟩:=begins_ok h3
 have g1:¬ s.day < (req r k).frm:=fun h=>hc ▸ (.inl h)
 have g2:¬ (req r k).by_ < s.day:=fun h=>hc ▸ (.inr (.inl h))
 have g3:¬ s.end_ < c.t + way nd l c.a (T.weight s r (part v c.bits)) (req r k).node:=fun h=>hc ▸ (.inr (.inr (.inl h)))
 have g4:¬ T.fits s r (part v (c.bits + 2 ^ i))=false:=fun h=>hc ▸ (.inr (.inr (.inr h)))
 have hr:reach nd l s r c.stops c.a c.t (req r k).node=(c.t + way nd l c.a (T.weight s r (part v c.bits)) (req r k).node,0):=by
  unfold reach
  rw [hw,if_neg h2,if_neg g3]
 have hl:leg nd l s r c.stops k c.a c.t=((begins s r (req r k) (part v (c.bits + 2 ^ i)) (c.t + way nd l c.a (T.weight s r (part v c.bits)) (req r k).node)).1,0):=by
  unfold leg
  rw [if_neg (fun h=>h.elim g1 g2),if_neg (by rw [hf];exact g4),hr]
  dsimp only
  rw [if_neg (by simp),if_neg (by rw [hft];simp),if_neg (by rw [he] at hend;omega),he]
 rw [hl,e]
 exact ⟨rfl,rfl,rfl,rfl,rfl⟩
end
end K
namespace K
section
variable {nd : Int} {l : List Ro} {s : S} {r : List Q} {v : List Int}
theorem legs_snoc {k:Int}:∀ (o served:List Int) (a t:Int),(legs nd l s r served a t o).e=0→(leg nd l s r (served ++ o) k (legs nd l s r served a t o).a (legs nd l s r served a t o).t).2=0 →
  legs nd l s r served a t (o ++ [k])=⟨(legs nd l s r served a t o).times ++ [(leg nd l s r (served ++ o) k (legs nd l s r served a t o).a (legs nd l s r served a t o).t).1],(req r k).node,(leg nd l s r (served ++ o) k (legs nd l s r served a t o).a (legs nd l s r served a t o).t).1 + (req r k).service,0⟩
 | [],served,a,t,_,h2=>by
  simp only [List.append_nil,legs] at h2
  simp [legs,h2]
 | i :: o,served,a,t,h1,h2=>by
  by_cases h:(leg nd l s r served i a t).2=0
  ·have e1:legs nd l s r served a t (i :: o)=⟨(leg nd l s r served i a t).1 :: (legs nd l s r (served ++ [i]) (req r i).node ((leg nd l s r served i a t).1 + (req r i).service) o).times,(legs nd l s r (served ++ [i]) (req r i).node ((leg nd l s r served i a t).1 + (req r i).service) o).a,(legs nd l s r (served ++ [i]) (req r i).node ((leg nd l s r served i a t).1 + (req r i).service) o).t,(legs nd l s r (served ++ [i]) (req r i).node ((leg nd l s r served i a t).1 + (req r i).service) o).e⟩:=by
    conv=>lhs;unfold legs
    rw [if_neg (by rw [h];simp)]
   rw [e1] at h1 h2 ⊢
   dsimp only at h1 h2 ⊢
   have hsv:served ++ i :: o=(served ++ [i]) ++ o:=by simp
   rw [hsv] at h2 ⊢
   have ih:=legs_snoc (k:=k) o (served ++ [i]) (req r i).node ((leg nd l s r served i a t).1 + (req r i).service) h1 h2
   rw [List.cons_append]
   conv=>lhs;unfold legs
   rw [if_neg (by rw [h];simp),ih]
   rfl
  ·have e1:(legs nd l s r served a t (i :: o)).e=(leg nd l s r served i a t).2:=by
    conv=>lhs;unfold legs
    rw [if_pos h]
   rw [e1] at h1
   exact absurd h1 h
theorem hits_legs {o:Option Nat} {c:St} (h:Hits nd l s r v o c):legs nd l s r [] s.depot s.start c.stops=⟨c.times,c.a,c.t,0⟩:=by
 induction h with
 | first=>rfl
 | step h hk ho ih =>
  obtain ⟨g1,g2,g3,g4,g5⟩:=leg_of_onward (hits_stops h) hk ho
  rw [g4,legs_snoc _ _ _ _ (by rw [ih]) (by rw [ih];exact g1),ih,g2,g3,g5]
  rfl
end
end K
namespace K
theorem part_full:∀ v:List Int,part v (2 ^ v.length - 1)=v
 | []=>rfl
 | x :: r=>by
  have h1:(2 ^ (r.length + 1) - 1).testBit 0=true:=by rw [Nat.testBit_two_pow_sub_one];simp
  have hpw:2 ^ (r.length + 1)=2 * 2 ^ r.length:=by rw [Nat.pow_succ];omega
  have h2:(2 ^ (r.length + 1) - 1) / 2=2 ^ r.length - 1:=by have:=Nat.two_pow_pos r.length;omega
  simp only [part,List.length_cons,h1,h2,if_true,part_full r]
theorem right_perm {nd:Int} {l:List Ro} {s:S} {r:List Q} {a b:List Int} (h:a.Perm b) (hr:right nd l s r a=true):right nd l s r b=true:=by
 unfold right at hr ⊢
 rw [←T.load_perm h]
 simp only [Bool.and_eq_true,List.all_eq_true] at hr ⊢
 exact ⟨hr.1,hr.2.1,hr.2.2.1,fun x hx=>hr.2.2.2 x (h.mem_iff.2 hx)⟩
section
variable {nd : Int} {l : List Ro} {s : S} {r : List Q} {v : List Int}
theorem home_run (hok:ok31 nd l s r v=true) {o:Option Nat} {c:St} {t:Tr} (h:Hits nd l s r v o c) (hH:Home nd l s r v c t) :
  t.stops.Perm v∧run nd l s r t.stops=⟨t,0,t.stops.length⟩:=by
 obtain ⟨h1,h2,h3,rfl⟩:=hH
 have hp:c.stops.Perm v:=by
  have:=hits_stops h
  rw [h1,part_full] at this
  exact this
 refine ⟨hp,?_⟩
 have hr:right nd l s r c.stops=true:=by
  rw [ok31_eq] at hok
  simp only [Bool.and_eq_true] at hok
  exact right_perm hp.symm hok.2
 have hw:T.weight s r c.stops=T.weight s r (part v c.bits):=T.weight_perm (hits_stops h)
 have hl:=hits_legs h
 have hre:reach nd l s r c.stops c.a c.t s.depot=(c.t + way nd l c.a (T.weight s r (part v c.bits)) s.depot,0):=by
  unfold reach
  rw [hw,if_neg h2,if_neg (by omega)]
 show run nd l s r c.stops=_
 unfold run
 rw [hr,hl]
 dsimp only
 rw [hre,if_neg (by simp),if_neg (by simp),if_neg (by simp)]
end
end K
namespace K
section
variable {nd : Int} {l : List Ro} {s : S} {r : List Q} {v : List Int}
theorem onward_of_leg {c:St} {i:Nat} {k:Int} (hp:c.stops.Perm (part v c.bits)) (hk:v[i]? = some k) (hb:c.bits.testBit i=false) (hl:(leg nd l s r c.stops k c.a c.t).2=0):∃ c',onward nd l s r v c i k=some c':=by
 obtain ⟨l1,l2,l3,l4,l5,l6,l7⟩:=leg_ok hl
 obtain ⟨r1,-,r3,r4⟩:=reach_ok l4
 have hw:T.weight s r c.stops=T.weight s r (part v c.bits):=T.weight_perm hp
 have hf:T.fits s r (c.stops ++ [k])=T.fits s r (part v (c.bits + 2 ^ i)):=T.fits_perm ((hp.append_right [k]).trans (part_add _ _ _ _ hk hb).symm)
 rw [r3] at l5 l6 r4
 rw [hw] at r1 l5 l6 r4
 rw [hf] at l3
 have hbg:(begins s r (req r k) (part v (c.bits + 2 ^ i)) (c.t + way nd l c.a (T.weight s r (part v c.bits)) (req r k).node)).2=true:=by
  unfold begins
  rw [if_neg (by rintro (h | h | h | h) <;> first | omega | (rw [l3] at h;cases h))]
  simp only [Bool.and_eq_true,decide_eq_true_eq]
  exact ⟨l5,by omega⟩
 unfold onward
 rw [if_neg (by rw [hb];simp),if_neg r1,if_neg (by rw [hbg];simp)]
 exact ⟨_,rfl⟩
end
end K
namespace K
section
variable {nd : Int} {l : List Ro} {s : S} {r : List Q} {v : List Int}
theorem legs_snoc_inv {k:Int}:∀ (o served:List Int) (a t:Int),(legs nd l s r served a t (o ++ [k])).e=0 →
  (legs nd l s r served a t o).e=0∧(leg nd l s r (served ++ o) k (legs nd l s r served a t o).a (legs nd l s r served a t o).t).2=0
 | [],served,a,t,h=>by
  by_cases h2:(leg nd l s r served k a t).2=0
  ·simp only [List.append_nil,legs]
   exact ⟨trivial,h2⟩
  ·simp [legs,h2] at h
 | i :: o,served,a,t,h=>by
  rw [List.cons_append] at h
  by_cases h2:(leg nd l s r served i a t).2=0
  ·have e1:∀ o',legs nd l s r served a t (i :: o')=⟨(leg nd l s r served i a t).1 :: (legs nd l s r (served ++ [i]) (req r i).node ((leg nd l s r served i a t).1 + (req r i).service) o').times,(legs nd l s r (served ++ [i]) (req r i).node ((leg nd l s r served i a t).1 + (req r i).service) o').a,(legs nd l s r (served ++ [i]) (req r i).node ((leg nd l s r served i a t).1 + (req r i).service) o').t,(legs nd l s r (served ++ [i]) (req r i).node ((leg nd l s r served i a t).1 + (req r i).service) o').e⟩:=fun o'=>by
    conv=>lhs;unfold legs
    rw [if_neg (by rw [h2];simp)]
   rw [e1] at h ⊢
   dsimp only at h ⊢
   have ih:=legs_snoc_inv (k:=k) o (served ++ [i]) (req r i).node ((leg nd l s r served i a t).1 + (req r i).service) h
   rw [show served ++ i :: o=(served ++ [i]) ++ o by simp]
   exact ih
  ·have e1:(legs nd l s r served a t (i :: (o ++ [k]))).e=(leg nd l s r served i a t).2:=by
    conv=>lhs;unfold legs
    rw [if_pos h2]
   rw [e1] at h
   exact absurd h h2
theorem part_mem:∀ (v:List Int) (m i:Nat) (k:Int),v[i]? = some k→m.testBit i=true→k ∈ part v m
 | [],_,_,_,h,_=>by simp at h
 | x :: r,m,0,k,h,hb=>by
  simp at h
  subst h
  simp only [part,hb,if_true]
  exact List.mem_cons_self ..
 | x :: r,m,i + 1,k,h,hb=>by
  have hk:r[i]? = some k:=by simpa using h
  have hb2:(m / 2).testBit i=true:=by rw [←Nat.testBit_succ];exact hb
  have ih:=part_mem r (m / 2) i k hk hb2
  simp only [part]
  split
  ·exact List.mem_cons_of_mem _ ih
  ·exact ih
theorem legs_hits:∀ (n:Nat) (o:List Int),o.length=n→o.Nodup→(∀ x ∈ o,x ∈ v)→(legs nd l s r [] s.depot s.start o).e=0→∃ q c,Hits nd l s r v q c∧c.stops=o:=by
 intro n
 induction n with
 | zero =>
  intro o hn _ _ _
  have:o=[]:=List.length_eq_zero_iff.1 hn
  subst this
  exact ⟨none,_,.first,rfl⟩
 | succ n ih =>
  intro o hn hd hm he
  obtain ⟨o',k,rfl⟩:∃ o' k,o=o' ++ [k]:=by
   rcases List.eq_nil_or_concat o with rfl | ⟨o',k,h⟩
   ·simp at hn
   ·exact ⟨o',k,by simpa using h⟩
  obtain ⟨h1,h2⟩:=legs_snoc_inv o' [] _ _ he
  rw [List.nil_append] at h2
  rw [List.nodup_append] at hd
  obtain ⟨d1,-,d2⟩:=hd
  obtain ⟨q,c,hc,hs⟩:=ih o' (by simpa using hn) d1 (fun x hx=>hm x (List.mem_append.2 (.inl hx))) h1
  obtain ⟨i,hi⟩:=List.mem_iff_getElem?.1 (hm k (List.mem_append.2 (.inr (List.mem_singleton.2 rfl))))
  have hp:=hits_stops hc
  have hlg:=hits_legs hc
  rw [hs] at hlg
  rw [hlg] at h2
  have hb:c.bits.testBit i=false:=by
   cases hb:c.bits.testBit i with
   | false=>rfl
   | true =>
    have h3:=hp.mem_iff.2 (part_mem v c.bits i k hi hb)
    rw [hs] at h3
    exact absurd rfl (d2 k h3 k (List.mem_singleton.2 rfl))
  obtain ⟨c',ho⟩:=onward_of_leg hp hi hb (by rw [hs];exact h2)
  exact ⟨_,c',.step hc hi ho,by rw [(leg_of_onward hp hi ho).2.2.2.1,hs]⟩
end
end K
namespace K
theorem part_all:∀ (v:List Int) (m:Nat),m < 2 ^ v.length→(part v m).length=v.length→m=2 ^ v.length - 1
 | [],m,h,_=>by simp at h;subst h;rfl
 | x :: r,m,h,hl=>by
  have hpw:2 ^ (r.length + 1)=2 * 2 ^ r.length:=by rw [Nat.pow_succ];omega
  rw [List.length_cons,hpw] at h
  rw [List.length_cons,hpw]
  have hp:=Nat.two_pow_pos r.length
  cases hb:m.testBit 0 with
  | true =>
   simp only [part,hb,if_true,List.length_cons] at hl
   have ih:=part_all r (m / 2) (by omega) (by omega)
   rw [Nat.testBit_zero] at hb
   have:m % 2=1:=by simpa using hb
   omega
  | false =>
   simp only [part,hb,Bool.false_eq_true,if_false,List.length_cons] at hl
   have:=part_len r (m / 2)
   omega
section
variable {nd : Int} {l : List Ro} {s : S} {r : List Q} {v : List Int}
theorem run_home (hok:ok31 nd l s r v=true) {o:List Int} (hp:o.Perm v) (he:(run nd l s r o).e=0):∃ q c,Hits nd l s r v q c∧Home nd l s r v c (run nd l s r o).tour∧c.stops=o:=by
 have hc:=case31 hok
 obtain ⟨h1,h2,h3,h4⟩:=run_ok he
 have hnd:v.Nodup:=by
  rw [ok31_eq] at hok
  simp only [Bool.and_eq_true] at hok
  exact (T.isSet_iff.1 (T.load_parts (right_parts hok.2).2.1).2.1).2
 obtain ⟨q,c,hh,hs⟩:=legs_hits (nd:=nd) (l:=l) (s:=s) (r:=r) (v:=v) o.length o rfl (hp.nodup_iff.2 hnd) (fun x hx=>hp.mem_iff.1 hx) h2
 have hlg:=hits_legs hh
 rw [hs] at hlg
 have hps:=hits_stops hh
 rw [hs] at hps
 have hbits:c.bits=2 ^ v.length - 1:=part_all v c.bits (hits_inv hc hh).1 (by rw [←hps.length_eq,hp.length_eq])
 have hw:T.weight s r o=T.weight s r (part v c.bits):=T.weight_perm hps
 have hb:back nd l s r o=reach nd l s r o c.a c.t s.depot:=by unfold back all;rw [hlg]
 rw [hb] at h3
 obtain ⟨r1,-,r3,r4⟩:=reach_ok h3
 rw [r3] at r4
 rw [hw] at r1 r3 r4
 refine ⟨q,c,hh,⟨hbits,r1,r4,?_⟩,hs⟩
 rw [h4,hb,r3,hs]
 unfold all
 rw [hlg]
end
end K
namespace K
section
variable {nd : Int} {l : List Ro} {s : S} {r : List Q} {v : List Int}
theorem run_sub {o' o:List Int} (h:o'.Sublist o):∀ pre:List Int,(run nd l s r (pre ++ o)).e=0→(run nd l s r (pre ++ o')).e=0∧(run nd l s r (pre ++ o')).tour.end_≤(run nd l s r (pre ++ o)).tour.end_:=by
 induction h with
 | slnil=>exact fun pre h=>⟨h,Int.le_refl _⟩
 | cons a _ ih =>
  intro pre h
  obtain ⟨⟨h1,h2⟩,-⟩:=skips h
  obtain ⟨h3,h4⟩:=ih pre h1
  exact ⟨h3,Int.le_trans h4 h2⟩
 | cons_cons a _ ih =>
  intro pre h
  have h2:=ih (pre ++ [a])
  simp only [List.append_assoc,List.singleton_append] at h2
  exact h2 h
theorem less_law (hok:ok31 nd l s r v=true) (m:Nat) {t:Tr} (hb:best nd l s r v=some t):∃ u,best nd l s r (part v m)=some u∧u.end_≤t.end_:=by
 have hc:=case31 hok
 have hok2:=ok31_part m hok
 have hE:Ends nd l s r v (St.first s) t:=by
  rcases (best_sees hc).sound t hb with h | h
  ·cases h
  ·exact h
 obtain ⟨q,c,hh,hH⟩:=ends_hits hE none .first
 obtain ⟨hp,hr⟩:=home_run hok hh hH
 have hnd:v.Nodup:=by
  have h:=hok
  rw [ok31_eq] at h
  simp only [Bool.and_eq_true] at h
  exact (T.isSet_iff.1 (T.load_parts (right_parts h.2).2.1).2.1).2
 have hsub:=part_sub v m
 have hpf:(t.stops.filter fun x=>decide (x ∈ part v m)).Perm (part v m):=by
  have h1:=hp.filter fun x=>decide (x ∈ part v m)
  refine h1.trans ?_
  refine (List.perm_ext_iff_of_nodup (hnd.filter _) (hnd.sublist hsub)).2 fun x=>?_
  rw [List.mem_filter]
  constructor
  ·rintro ⟨-,h⟩;exact of_decide_eq_true h
  ·intro h;exact ⟨hsub.subset h,decide_eq_true h⟩
 obtain ⟨g1,g2⟩:=run_sub (nd:=nd) (l:=l) (s:=s) (r:=r) (List.filter_sublist (p:=fun x=>decide (x ∈ part v m)) (l:=t.stops)) [] (by rw [List.nil_append,hr])
 rw [List.nil_append,List.nil_append,hr] at g2
 rw [List.nil_append] at g1
 obtain ⟨q2,c2,hh2,hH2,-⟩:=run_home hok2 hpf g1
 obtain ⟨u,hu,hle⟩:=(best_sees (case31 hok2)).least _ (hits_ends hh2 (.home hH2))
 exact ⟨u,hu,Int.le_trans hle g2⟩
end
end K
namespace K
def placeGo (x:Int):List Int→Nat→Int→Int
 | [],_,p=>p
 | y :: l,i,p=>placeGo x l (i + 1) (if y=x then (i:Int) else p)
def place (v:List Int) (x:Int):Int:=placeGo x v 0 (-1)
section
variable {nd : Int} {l : List Ro} {s : S} {r : List Q} {v : List Int}
theorem set_nodup (h:ok31 nd l s r v=true):v.Nodup:=by
 rw [ok31_eq] at h
 simp only [Bool.and_eq_true] at h
 exact (T.isSet_iff.1 (T.load_parts (right_parts h.2).2.1).2.1).2
theorem hits_times (hc:Case31 nd l s r v) {q:Option Nat} {c:St} (h:Hits nd l s r v q c):c.times.length=c.stops.length∧(c.stops ≠ []→∃ i k y,q=some i∧c.stops[c.stops.length - 1]? = some k∧c.times[c.stops.length - 1]? = some y∧c.t=y + (req r k).service∧v[i]? = some k∧0≤y∧y≤1000000):=by
 induction h with
 | first=>exact ⟨rfl,fun h=>absurd rfl h⟩
 | step h hk ho ih =>
  rename_i o a b i k
  obtain ⟨-,-,h3,e⟩:=onward_some ho
  obtain ⟨b1,b2,b3,b4,b5,b6,b7⟩:=begins_ok h3
  have hsv:=(hc.ok k (List.mem_of_getElem? hk)).1
  rw [e]
  dsimp only
  refine ⟨by simp [ih.1],fun _=>⟨i,k,_,rfl,by simp,by simp [←ih.1],rfl,hk,?_,?_⟩⟩
  ·omega
  ·omega
end
end K
namespace K
def lexle:List Int→List Int→Bool
 | [],_=>true
 | _ :: _,[]=>false
 | a :: x,b :: y=>if a=b then lexle x y else decide (a < b)
theorem lexle_refl:∀ l:List Int,lexle l l=true
 | []=>rfl
 | a :: x=>by simp [lexle,lexle_refl x]
theorem lexle_less {a b:Int} (h:a < b) (x y:List Int):∀ p:List Int,lexle (p ++ a :: x) (p ++ b :: y)=true
 | []=>by simp [lexle,h];omega
 | c :: p=>by simp [lexle,lexle_less h x y p]
section
variable {nd : Int} {l : List Ro} {s : S} {r : List Q} {v : List Int}
theorem step_stops {a b:St} {i:Nat} {k:Int} (h:onward nd l s r v a i k=some b):b.stops=a.stops ++ [k]:=by
 obtain ⟨-,-,-,e⟩:=onward_some h
 rw [e]
theorem ends_stops {a:St} {t:Tr} (h:Ends nd l s r v a t):∃ x,t.stops=a.stops ++ x:=by
 induction h with
 | home h=>obtain ⟨-,-,-,rfl⟩:=h;exact ⟨[],by simp⟩
 | step h h2 ih =>
  obtain ⟨i,k,-,ho⟩:=h
  obtain ⟨x,hx⟩:=ih
  exact ⟨k :: x,by rw [hx,step_stops ho];simp⟩
structure First (P:Tr→Prop) (best R:Option Tr):Prop where
 sound:∀ t,R=some t→best=some t∨P t
 keeps:∀ b,best=some b→∃ t,R=some t∧(t=b∨t.end_ < b.end_)
 least:∀ t,P t→∃ t',R=some t'∧t'.end_≤t.end_∧(t'.end_=t.end_→best=some t'∨lexle t'.stops t.stops=true)
theorem go_first (hs:v.Pairwise (· < ·)) {rec:St→Option Tr→Option Tr} {st:St} (hrec:∀ st' b,Step nd l s r v st st'→First (Ends nd l s r v st') b (rec st' b)):∀ (rest:List Int) (i:Nat) (best:Option Tr),v.drop i=rest →
  First (fun t=>∃ j k st',i≤j∧v[j]? = some k∧onward nd l s r v st j k=some st'∧Ends nd l s r v st' t) best (seek.go rec nd l s r v st best i rest):=by
 intro rest
 induction rest with
 | nil =>
  intro i best hd
  refine ⟨fun t h=>.inl h,fun b h=>⟨b,h,.inl rfl⟩,?_⟩
  rintro t ⟨j,k,st',hj,hk,-⟩
  have h1:=(List.getElem?_eq_some_iff.1 hk).1
  have h2:v.length≤i:=by simpa using hd
  omega
 | cons k rest ih =>
  intro i best hd
  have hk:v[i]? = some k:=by
   have h1:(v.drop i)[0]? = some k:=by rw [hd];rfl
   simpa using h1
  have hd2:v.drop (i + 1)=rest:=by
   have h1:(v.drop i).drop 1=rest:=by rw [hd];rfl
   simpa [List.drop_drop] using h1
  unfold seek.go
  cases ho:onward nd l s r v st i k with
  | none =>
   obtain ⟨a1,a2,a3⟩:=ih (i + 1) best hd2
   refine ⟨fun t h=>(a1 t h).imp id ?_,a2,?_⟩
   ·rintro ⟨j,k',st',hj,h⟩
    exact ⟨j,k',st',by omega,h⟩
   ·rintro t ⟨j,k',st',hj,hk',ho',he⟩
    refine a3 t ⟨j,k',st',?_,hk',ho',he⟩
    rcases Nat.eq_or_lt_of_le hj with rfl | hj
    ·rw [hk] at hk';injection hk' with hk';subst hk';rw [ho] at ho';cases ho'
    ·omega
  | some st1 =>
   obtain ⟨b1,b2,b3⟩:=hrec st1 best ⟨i,k,hk,ho⟩
   obtain ⟨a1,a2,a3⟩:=ih (i + 1) (rec st1 best) hd2
   refine ⟨fun t h=>?_,fun b h=>?_,?_⟩
   ·rcases a1 t h with h | ⟨j,k',st',hj,h⟩
    ·exact (b1 t h).imp id fun h=>⟨i,k,st1,Nat.le_refl _,hk,ho,h⟩
    ·exact .inr ⟨j,k',st',by omega,h⟩
   ·obtain ⟨t,h1,h2⟩:=b2 b h
    obtain ⟨t',h3,h4⟩:=a2 t h1
    refine ⟨t',h3,?_⟩
    rcases h4 with rfl | h4
    ·exact h2
    ·rcases h2 with rfl | h2
     ·exact .inr h4
     ·exact .inr (by omega)
   ·rintro t ⟨j,k',st',hj,hk',ho',he⟩
    rcases Nat.eq_or_lt_of_le hj with rfl | hj
    ·rw [hk] at hk';injection hk' with hk';subst hk';rw [ho] at ho';injection ho' with ho';subst ho'
     obtain ⟨t1,h1,h2,h5⟩:=b3 t he
     obtain ⟨t',h3,h4⟩:=a2 t1 h1
     refine ⟨t',h3,?_,fun heq=>?_⟩
     ·rcases h4 with rfl | h4 <;> omega
     ·rcases h4 with rfl | h4
      ·exact h5 heq
      ·omega
    ·obtain ⟨t',h3,h4,h5⟩:=a3 t ⟨j,k',st',by omega,hk',ho',he⟩
     refine ⟨t',h3,h4,fun heq=>?_⟩
     rcases h5 heq with h6 | h6
     ·rcases b1 t' h6 with h7 | h7
      ·exact .inl h7
      ·refine .inr ?_
       obtain ⟨x,hx⟩:=ends_stops h7
       obtain ⟨y,hy⟩:=ends_stops he
       rw [hx,hy,step_stops ho,step_stops ho']
       have hlt:k < k':=by
        obtain ⟨q1,e1⟩:=List.getElem?_eq_some_iff.1 hk
        obtain ⟨q2,e2⟩:=List.getElem?_eq_some_iff.1 hk'
        rw [←e1,←e2]
        exact (List.pairwise_iff_getElem.1 hs) i j q1 q2 hj
       simpa using lexle_less hlt x y st.stops
     ·exact .inr h6
theorem seek_first (hc:Case31 nd l s r v) (hs:v.Pairwise (· < ·)):∀ (f:Nat) (st:St) (best:Option Tr),st.bits < 2 ^ v.length→2 ^ v.length≤st.bits + f→First (Ends nd l s r v st) best (seek nd l s r v f st best):=by
 intro f
 induction f with
 | zero=>intro st best h1 h2;omega
 | succ f ih =>
  intro st best hb hf
  unfold seek
  split
  ·rename_i hl
   obtain ⟨b,rfl,hle⟩:∃ b,best=some b∧b.end_≤st.t:=by
    cases best with
    | none=>simp [late] at hl
    | some b=>exact ⟨b,rfl,by simpa [late] using hl⟩
   exact ⟨fun t h=>.inl h,fun b' h=>⟨b',h,.inl rfl⟩,fun t h=>⟨b,rfl,Int.le_trans hle (ends_time hc h),fun _=>.inl rfl⟩⟩
  ·split
   ·rename_i hl hfull
    have hends:∀ t,Ends nd l s r v st t→Home nd l s r v st t:=fun t h=>by
     cases h with
     | home h=>exact h
     | step h h2=>exact absurd h (full_no_step hfull)
    unfold home
    split
    ·rename_i h
     obtain ⟨h1,h2,h3⟩:=h
     refine ⟨fun t ht=>.inr (.home ⟨hfull,h1,h2,?_⟩),fun b hb=>⟨_,rfl,?_⟩,fun t ht=>⟨_,rfl,?_⟩⟩
     ·injection ht with ht;exact ht.symm
     ·subst hb
      simp only [better,decide_eq_true_eq] at h3
      refine .inr ?_
      show _ + _ < _
      omega
     ·obtain ⟨-,-,-,rfl⟩:=hends t ht
      exact ⟨Int.le_refl _,fun _=>.inr (lexle_refl _)⟩
    ·rename_i h
     refine ⟨fun t h=>.inl h,fun b h=>⟨b,h,.inl rfl⟩,fun t ht=>?_⟩
     obtain ⟨-,h1,h2,rfl⟩:=hends t ht
     cases best with
     | none=>exact absurd ⟨h1,h2,rfl⟩ h
     | some b =>
      refine ⟨b,rfl,?_,fun _=>.inl rfl⟩
      have h3:¬ better (some b) (st.t + way nd l st.a (T.weight s r (part v st.bits)) s.depot)=true:=fun h4=>h ⟨h1,h2,h4⟩
      simp only [better,decide_eq_true_eq] at h3
      show b.end_≤_ + _
      omega
   ·rename_i hl hfull
    have hg:=go_first (nd:=nd) (l:=l) (s:=s) (r:=r) (v:=v) hs (rec:=seek nd l s r v f) (st:=st) (fun st' b h=>ih st' b (step_bits hc h hb).1 (by have:=(step_bits hc h hb).2;omega)) v 0 best rfl
    refine ⟨fun t h=>(hg.sound t h).imp id ?_,hg.keeps,fun t h=>?_⟩
    ·rintro ⟨j,k,st',-,hk,ho,he⟩
     exact .step ⟨j,k,hk,ho⟩ he
    ·cases h with
     | home h=>exact absurd h.1 hfull
     | step h h2 =>
      obtain ⟨j,k,hk,ho⟩:=h
      exact hg.least t ⟨j,k,_,Nat.zero_le _,hk,ho,h2⟩
theorem set_sorted (h:ok31 nd l s r v=true):v.Pairwise (· < ·):=((setGo_iff _ _).1 (ok31_parts h).2.2.2.2.2).2
theorem best_law (hok:ok31 nd l s r v=true) {o:List Int} (hp:o.Perm v) (he:(run nd l s r o).e=0) :
  ∃ t,best nd l s r v=some t∧t.end_≤(run nd l s r o).tour.end_∧(t.end_=(run nd l s r o).tour.end_→lexle t.stops o=true):=by
 have hc:=case31 hok
 obtain ⟨q,c,hh,hH,hst⟩:=run_home hok hp he
 obtain ⟨t,h1,h2,h3⟩:=(seek_first hc (set_sorted hok) _ _ none (Nat.two_pow_pos _) (Nat.le_add_left _ _):First _ none (best nd l s r v)).least _ (hits_ends hh (.home hH))
 refine ⟨t,h1,h2,fun h4=>?_⟩
 rcases h3 h4 with h5 | h5
 ·cases h5
 ·obtain ⟨-,-,-,e⟩:=hH
  rw [e] at h5
  rw [←hst]
  exact h5
theorem best_tour (hok:ok31 nd l s r v=true) {t:Tr} (h:best nd l s r v=some t):t.stops.Perm v∧run nd l s r t.stops=⟨t,0,t.stops.length⟩∧t.times.length=t.stops.length:=by
 have hE:Ends nd l s r v (St.first s) t:=by
  rcases (best_sees (case31 hok)).sound t h with h | h
  ·cases h
  ·exact h
 obtain ⟨q,c,hh,hH⟩:=ends_hits hE none .first
 obtain ⟨h1,h2⟩:=home_run hok hh hH
 refine ⟨h1,h2,?_⟩
 obtain ⟨-,-,-,e⟩:=hH
 rw [e]
 exact (hits_times (case31 hok) hh).1
end
end K
namespace K
def Upto (nd:Int) (l:List Ro) (s:S) (r:List Q) (o ts:List Int) (k:Nat) (a t:Int):Prop :=
 all nd l s r o=⟨ts.take k ++ (legs nd l s r (o.take k) a t (o.drop k)).times,(legs nd l s r (o.take k) a t (o.drop k)).a,(legs nd l s r (o.take k) a t (o.drop k)).t,(legs nd l s r (o.take k) a t (o.drop k)).e⟩∧(0≤a∧a < nd)∧0≤t∧t≤s.end_
structure Next (nd:Int) (l:List Ro) (s:S) (r:List Q) (o ts:List Int) (k:Nat) (a t i y:Int):Prop where
 leg:(leg nd l s r (o.take k) i a t).2=0
 time:(K.leg nd l s r (o.take k) i a t).1=y
 next:Upto nd l s r o ts (k + 1) (req r i).node (y + (req r i).service)
 way:0≤way nd l a (T.weight s r (o.take k)) (req r i).node∧t + K.way nd l a (T.weight s r (o.take k)) (req r i).node≤y
 fit:H.fit (req r i).l y (req r i).service=(y,true)
 bound:0≤y∧y + (req r i).service≤s.end_∧0≤(req r i).service
 least:∀ b,(H.fit (req r i).l b (req r i).service).2=true→(H.fit (req r i).l b (req r i).service).1=b→t + K.way nd l a (T.weight s r (o.take k)) (req r i).node≤b→y≤b
theorem next {nd:Int} {l:List Ro} {s:S} {r:List Q} {o:List Int} (h:(run nd l s r o).e=0) {k:Nat} {a t i y:Int} (hu:Upto nd l s r o (run nd l s r o).tour.times k a t) (hi:o[k]? = some i) (hy:(run nd l s r o).tour.times[k]? = some y):Next nd l s r o (run nd l s r o).tour.times k a t i y:=by
 obtain ⟨h1,h2,h3,h4⟩:=run_ok h
 obtain ⟨ts,hts⟩:∃ ts,ts=(run nd l s r o).tour.times:=⟨_,rfl⟩
 rw [←hts] at hu hy ⊢
 have hta:ts=(all nd l s r o).times:=by rw [hts,h4]
 obtain ⟨u1,u2,u3,u4⟩:=hu
 have hleg:(leg nd l s r (o.take k) i a t).2=0:=by
  by_cases e:(leg nd l s r (o.take k) i a t).2=0
  ·exact e
  ·rw [legs_no hi e] at u1
   rw [u1] at h2
   exact absurd h2 e
 have hok:=legs_ok hi hleg
 rw [hok] at u1
 have hkl:(ts.take k).length=k:=by
  have:=(List.getElem?_eq_some_iff.1 hy).1
  rw [List.length_take];omega
 have htime:(leg nd l s r (o.take k) i a t).1=y:=by
  have e:ts[k]? = some (leg nd l s r (o.take k) i a t).1:=by
   conv=>lhs;rw [hta,u1]
   simp only
   rw [List.getElem?_append_right (by omega),hkl,Nat.sub_self];rfl
  rw [hy] at e
  injection e with e;exact e.symm
 have hf:=fine_right h1 i (List.mem_of_getElem? hi)
 obtain ⟨-,-,l3,l4,l5,l6,l7⟩:=leg_ok hleg
 obtain ⟨r1,r2,r3,r4⟩:=reach_ok l4
 obtain ⟨f1,f2,f3,f4,f5⟩:=H.fit_ok l5
 rw [l6] at htime l7
 rw [htime] at f4 f5 l7
 have hfit:H.fit (req r i).l y (req r i).service=(y,true):=by
  have h2':=(H.first_two f1 (t:=(reach nd l s r (o.take k) a t (req r i).node).1) (o:=y) (by omega) f3 (by omega)).2 l5 (by rw [htime];omega)
  rw [htime] at h2'
  exact Prod.ext h2'.2 h2'.1
 refine ⟨hleg,by rw [l6];exact htime,⟨?_,hf.1,by omega,l7⟩,⟨r2,by omega⟩,hfit,⟨by omega,l7,hf.2⟩,?_⟩
 ·rw [u1,take_snoc hy,l6,htime]
  simp
 ·intro b hb1 hb2 hb3
  obtain ⟨g1,g2,g3,g4,g5⟩:=H.fit_ok hb1
  have:=((H.first_two f1 (t:=(reach nd l s r (o.take k) a t (req r i).node).1) (o:=b) (by omega) f3 (by omega)).1 hb1).2
  rw [htime,hb2] at this
  exact this
theorem last {nd:Int} {l:List Ro} {s:S} {r:List Q} {o:List Int} (h:(run nd l s r o).e=0) {a t:Int} (hu:Upto nd l s r o (run nd l s r o).tour.times o.length a t) :
  0≤way nd l a (T.weight s r o) s.depot∧(run nd l s r o).tour.end_=t + way nd l a (T.weight s r o) s.depot∧(run nd l s r o).tour.end_≤s.end_:=by
 obtain ⟨h1,h2,h3,h4⟩:=run_ok h
 obtain ⟨u1,-⟩:=hu
 rw [List.take_length,List.drop_length] at u1
 have ea:(all nd l s r o).a=a:=by rw [u1];rfl
 have et:(all nd l s r o).t=t:=by rw [u1];rfl
 unfold back at h3
 rw [ea,et] at h3
 obtain ⟨r1,r2,r3,r4⟩:=reach_ok h3
 have e:(run nd l s r o).tour.end_=(reach nd l s r o a t s.depot).1:=by
  rw [h4];unfold back;rw [ea,et]
 rw [e]
 exact ⟨r2,r3,r4⟩
end K
namespace A
def exts (m:Nat):Nat→List (List Nat)
 | 0=>[[]]
 | k + 1=>(List.range m).flatMap fun s=>(exts m k).map (s :: ·)
def give (sh:List (List Int)) (s:Nat) (i:Int):List (List Int):=sh.set s ((sh[s]?).getD [] ++ [i])
def place:List (List Int)→Int→List Nat→List (List Int)
 | sh,_,[]=>sh
 | sh,i,s :: d=>place (give sh s i) (i + 1) d
def fine (B:Nat→List Int→Bool) (sh:List (List Int)) (d:List Nat):Bool:=d.all fun s=>B s ((sh[s]?).getD [])
def assign (B:Nat→List Int→Bool) (m:Nat):Nat→Int→List (List Int)→Option (List (List Int))
 | 0,_,sh=>some sh
 | k + 1,i,sh=>go (assign B m k (i + 1)) i sh (List.range m)
where
 go (rec:List (List Int)→Option (List (List Int))) (i:Int) (sh:List (List Int)):List Nat→Option (List (List Int))
  | []=>none
  | s :: rest=>if B s ((sh[s]?).getD [] ++ [i])=true then (match rec (give sh s i) with | some x=>some x | none=>go rec i sh rest) else go rec i sh rest
def Mono (B:Nat→List Int→Bool):Prop:=∀ s v w,B s (v ++ w)=true→B s v=true
theorem give_len (sh:List (List Int)) (s:Nat) (i:Int):(give sh s i).length=sh.length:=by simp [give]
theorem place_len:∀ (d:List Nat) (sh:List (List Int)) (i:Int),(place sh i d).length=sh.length
 | [],_,_=>rfl
 | s :: d,sh,i=>by rw [place,place_len d,give_len]
theorem give_at {sh:List (List Int)} {s:Nat} {i:Int} (hs:s < sh.length) (t:Nat):((give sh s i)[t]?).getD [] = if t=s then (sh[s]?).getD [] ++ [i] else (sh[t]?).getD []:=by
 unfold give
 rw [List.getElem?_set]
 by_cases h:s=t
 ·subst h;rw [if_pos rfl,if_pos hs,if_pos rfl];rfl
 ·rw [if_neg h,if_neg (fun e=>h e.symm)]
theorem place_pre:∀ (d:List Nat) (sh:List (List Int)) (i:Int),(∀ s ∈ d,s < sh.length)→∀ t:Nat,∃ w:List Int,((place sh i d)[t]?).getD [] = (sh[t]?).getD [] ++ w
 | [],sh,i,_,t=>⟨[],by simp [place]⟩
 | s :: d,sh,i,h,t=>by
  obtain ⟨w,hw⟩:=place_pre d (give sh s i) (i + 1) (fun x hx=>by rw [give_len];exact h x (List.mem_cons_of_mem _ hx)) t
  rw [place,hw,give_at (h s (List.mem_cons_self ..))]
  by_cases e:t=s
  ·rw [if_pos e,List.append_assoc,e];exact ⟨_,rfl⟩
  ·rw [if_neg e];exact ⟨_,rfl⟩
theorem mem_exts {m:Nat}:∀ {k:Nat} {d:List Nat},d ∈ exts m k ↔ d.length=k∧∀ s ∈ d,s < m
 | 0,d=>by
  rw [exts,List.mem_singleton]
  constructor
  ·rintro rfl;exact ⟨rfl,fun s h=>by cases h⟩
  ·rintro ⟨h,-⟩;exact List.length_eq_zero_iff.1 h
 | k + 1,d=>by
  rw [exts,List.mem_flatMap]
  constructor
  ·rintro ⟨s,hs,h⟩
   obtain ⟨e,he,rfl⟩:=List.mem_map.1 h
   obtain ⟨h1,h2⟩:=mem_exts.1 he
   refine ⟨by rw [List.length_cons,h1],fun x hx=>?_⟩
   rcases List.mem_cons.1 hx with rfl | hx
   ·exact List.mem_range.1 hs
   ·exact h2 x hx
  ·rintro ⟨h1,h2⟩
   cases d with
   | nil=>cases h1
   | cons s d =>
    refine ⟨s,List.mem_range.2 (h2 s (List.mem_cons_self ..)),List.mem_map.2 ⟨d,mem_exts.2 ⟨?_,fun x hx=>h2 x (List.mem_cons_of_mem _ hx)⟩,rfl⟩⟩
    rw [List.length_cons] at h1;omega
theorem find_append {α:Type} (p:α→Bool) (a b:List α):(a ++ b).find? p=(a.find? p).or (b.find? p):=by simp
theorem find_congr {α:Type} {p q:α→Bool}:∀ (l:List α),(∀ x ∈ l,p x=q x)→l.find? p=l.find? q
 | [],_=>rfl
 | a :: l,h=>by
  rw [List.find?_cons,List.find?_cons,h a (List.mem_cons_self ..),find_congr l fun x hx=>h x (List.mem_cons_of_mem _ hx)]
theorem assign_eq {B:Nat→List Int→Bool} (hB:Mono B) {m:Nat}:∀ (k:Nat) (i:Int) (sh:List (List Int)),sh.length=m →
  assign B m k i sh=((exts m k).find? fun d=>fine B (place sh i d) d).map (place sh i)
 | 0,i,sh,_=>by simp [assign,exts,fine,place]
 | k + 1,i,sh,hm=>by
  have key:∀ L:List Nat,(∀ s ∈ L,s < m)→assign.go B (assign B m k (i + 1)) i sh L=((L.flatMap fun s=>(exts m k).map (s :: ·)).find? fun d=>fine B (place sh i d) d).map (place sh i):=by
   intro L
   induction L with
   | nil=>intro _;rfl
   | cons s L ih =>
    intro hL
    have hs:s < sh.length:=by rw [hm];exact hL s (List.mem_cons_self ..)
    have ih:=ih fun x hx=>hL x (List.mem_cons_of_mem _ hx)
    rw [List.flatMap_cons,find_append,List.find?_map]
    unfold assign.go
    rw [ih]
    have hfin:∀ d ∈ exts m k,fine B (place sh i (s :: d)) (s :: d)=(B s ((sh[s]?).getD [] ++ [i]) && fine B (place (give sh s i) (i + 1) d) d):=fun d hd=>by
     obtain ⟨-,h2⟩:=mem_exts.1 hd
     obtain ⟨w,hw⟩:=place_pre d (give sh s i) (i + 1) (fun x hx=>by rw [give_len,hm];exact h2 x hx) s
     rw [give_at hs,if_pos rfl] at hw
     unfold fine
     rw [List.all_cons,place,hw]
     by_cases hsd:s ∈ d
     ·cases hall:d.all fun s_1=>B s_1 (((place (give sh s i) (i + 1) d)[s_1]?).getD [])
      ·rw [Bool.and_false,Bool.and_false]
      ·have h1:=List.all_eq_true.1 hall s hsd
       rw [hw] at h1
       rw [h1,hB _ _ _ h1]
     ·have hnt:∀ (d:List Nat) (sh':List (List Int)) (j:Int),s ∉ d→(∀ x ∈ d,x < sh'.length)→((place sh' j d)[s]?).getD [] = (sh'[s]?).getD []:=by
       intro d
       induction d with
       | nil=>intro _ _ _ _;rfl
       | cons x d ih =>
        intro sh' j hn hx
        rw [place,ih _ _ (fun h=>hn (List.mem_cons_of_mem _ h)) (fun y hy=>by rw [give_len];exact hx y (List.mem_cons_of_mem _ hy)),give_at (hx x (List.mem_cons_self ..)),if_neg (fun e=>hn (by rw [e];exact List.mem_cons_self ..))]
      have:=hnt d (give sh s i) (i + 1) hsd (fun x hx=>by rw [give_len,hm];exact h2 x hx)
      rw [hw,give_at hs,if_pos rfl] at this
      rw [this]
    cases hb:B s ((sh[s]?).getD [] ++ [i])
    ·rw [if_neg (by simp)]
     have:(exts m k).find? ((fun d=>fine B (place sh i d) d) ∘ (s :: ·))=none:=by
      rw [List.find?_eq_none]
      intro d hd
      have h:=hfin d hd
      rw [hb,Bool.false_and] at h
      show ¬ fine B (place sh i (s :: d)) (s :: d)=true
      rw [h]
      exact Bool.false_ne_true
     rw [this]
     rfl
    ·rw [if_pos rfl,assign_eq hB k (i + 1) (give sh s i) (by rw [give_len,hm])]
     have:(exts m k).find? ((fun d=>fine B (place sh i d) d) ∘ (s :: ·))=(exts m k).find? fun d=>fine B (place (give sh s i) (i + 1) d) d:=by
      apply find_congr
      intro d hd
      have h:=hfin d hd
      rw [hb,Bool.true_and] at h
      exact h
     rw [this]
     cases (exts m k).find? fun d=>fine B (place (give sh s i) (i + 1) d) d with
     | none=>rfl
     | some d=>rfl
  rw [assign]
  exact key _ fun s hs=>List.mem_range.1 hs
end A
namespace A
def share:List Nat→Nat→Int→List Int
 | [],_,_=>[]
 | x :: d,s,i=>if x=s then i :: share d s (i + 1) else share d s (i + 1)
theorem place_share:∀ (d:List Nat) (sh:List (List Int)) (i:Int),(∀ s ∈ d,s < sh.length)→∀ t:Nat,((place sh i d)[t]?).getD [] = (sh[t]?).getD [] ++ share d t i
 | [],sh,i,_,t=>by simp [place,share]
 | s :: d,sh,i,h,t=>by
  rw [place,place_share d (give sh s i) (i + 1) (fun x hx=>by rw [give_len];exact h x (List.mem_cons_of_mem _ hx)),give_at (h s (List.mem_cons_self ..)),share]
  by_cases e:t=s
  ·rw [if_pos e,if_pos e.symm,List.append_assoc,e];rfl
  ·rw [if_neg e,if_neg (fun e2=>e e2.symm)]
theorem share_nil:∀ {d:List Nat} {s:Nat} {i:Int},share d s i=[] ↔ s ∉ d
 | [],s,i=>by simp [share]
 | x :: d,s,i=>by
  rw [share]
  by_cases h:x=s
  ·rw [if_pos h];simp [h]
  ·rw [if_neg h,share_nil]
   simp only [List.mem_cons,not_or]
   exact ⟨fun h2=>⟨fun e=>h e.symm,h2⟩,fun h2=>h2.2⟩
theorem share_mem:∀ {d:List Nat} {s:Nat} {i x:Int},x ∈ share d s i→i≤x∧x < i + d.length
 | [],s,i,x,h=>by cases h
 | y :: d,s,i,x,h=>by
  rw [share] at h
  rw [List.length_cons]
  split at h
  ·rcases List.mem_cons.1 h with rfl | h
   ·omega
   ·have:=share_mem h;omega
  ·have:=share_mem h;omega
theorem share_sorted:∀ (d:List Nat) (s:Nat) (i:Int),(share d s i).Pairwise (· < ·)
 | [],s,i=>List.Pairwise.nil
 | y :: d,s,i=>by
  rw [share]
  split
  ·refine List.pairwise_cons.2 ⟨fun x hx=>?_,share_sorted d s (i + 1)⟩
   have:=share_mem hx;omega
  ·exact share_sorted d s (i + 1)
def possible (B:Nat→List Int→Bool) (m:Nat) (d:List Nat):Bool:=(List.range m).all fun s=>(share d s 0).isEmpty || B s (share d s 0)
def first (B:Nat→List Int→Bool) (m n:Nat):Option (List Nat):=(exts m n).find? (possible B m)
theorem fine_possible {B:Nat→List Int→Bool} {m k:Nat} {d:List Nat} (h:d ∈ exts m k):fine B (place (List.replicate m []) 0 d) d=possible B m d:=by
 obtain ⟨-,h2⟩:=mem_exts.1 h
 have hp:∀ t:Nat,((place (List.replicate m []) 0 d)[t]?).getD [] = share d t 0:=fun t=>by
  rw [place_share d _ 0 (fun s hs=>by rw [List.length_replicate];exact h2 s hs)]
  have:((List.replicate m ([]:List Int))[t]?).getD [] = []:=by
   by_cases ht:t < m
   ·rw [List.getElem?_replicate,if_pos ht];rfl
   ·rw [List.getElem?_replicate,if_neg ht];rfl
  rw [this,List.nil_append]
 unfold fine possible
 rw [Bool.eq_iff_iff,List.all_eq_true,List.all_eq_true]
 constructor
 ·intro h3 s _
  by_cases hs:s ∈ d
  ·have:=h3 s hs
   rw [hp] at this
   rw [this,Bool.or_true]
  ·rw [share_nil.2 hs];rfl
 ·intro h3 s hs
  have:=h3 s (List.mem_range.2 (h2 s hs))
  rw [hp]
  rcases Bool.or_eq_true_iff.1 this with h4 | h4
  ·rw [List.isEmpty_iff,share_nil] at h4;exact absurd hs h4
  ·exact h4
theorem place_list {m k:Nat} {d:List Nat} (h:d ∈ exts m k):place (List.replicate m []) 0 d=(List.range m).map fun s=>share d s 0:=by
 obtain ⟨-,h2⟩:=mem_exts.1 h
 have hl:(place (List.replicate m []) 0 d).length=m:=by rw [place_len,List.length_replicate]
 apply List.ext_getElem?
 intro t
 have h3:=place_share d (List.replicate m []) 0 (fun s hs=>by rw [List.length_replicate];exact h2 s hs) t
 by_cases ht:t < m
 ·rw [List.getElem?_replicate,if_pos ht,List.getElem?_eq_getElem (by rw [hl];exact ht)] at h3
  rw [List.getElem?_eq_getElem (by rw [hl];exact ht),List.getElem?_map,List.getElem?_range ht]
  exact congrArg some h3
 ·rw [List.getElem?_eq_none (by rw [hl];omega),List.getElem?_eq_none (by rw [List.length_map,List.length_range];omega)]
theorem assign_first {B:Nat→List Int→Bool} (hB:Mono B) (m n:Nat):assign B m n 0 (List.replicate m [])=(first B m n).map fun d=>(List.range m).map fun s=>share d s 0:=by
 rw [assign_eq hB n 0 _ (List.length_replicate ..),first]
 rw [find_congr (exts m n) fun d hd=>fine_possible hd]
 cases h:(exts m n).find? (possible B m) with
 | none=>rfl
 | some d=>exact congrArg some (place_list (List.mem_of_find?_eq_some h))
def MonoS (B:Nat→List Int→Bool):Prop:=∀ s v w,v.Sublist w→B s w=true→B s v=true
theorem MonoS.mono {B:Nat→List Int→Bool} (h:MonoS B):Mono B:=fun s v w=>h s v (v ++ w) (List.sublist_append_left v w)
theorem sub_of_sorted:∀ {w v:List Int},v.Pairwise (· < ·)→w.Pairwise (· < ·)→(∀ x ∈ v,x ∈ w)→v.Sublist w
 | [],v,_,_,h=>by
  cases v with
  | nil=>exact List.Sublist.refl _
  | cons x v=>cases h x (List.mem_cons_self ..)
 | y :: w,[],_,_,_=>List.nil_sublist _
 | y :: w,x :: v,hv,hw,h=>by
  obtain ⟨hv1,hv2⟩:=List.pairwise_cons.1 hv
  obtain ⟨hw1,hw2⟩:=List.pairwise_cons.1 hw
  rcases List.mem_cons.1 (h x (List.mem_cons_self ..)) with rfl | hx
  ·refine List.Sublist.cons_cons _ (sub_of_sorted hv2 hw2 fun z hz=>?_)
   rcases List.mem_cons.1 (h z (List.mem_cons_of_mem _ hz)) with rfl | hz2
   ·have:=hv1 _ hz;omega
   ·exact hz2
  ·refine List.Sublist.cons _ (sub_of_sorted hv hw2 fun z hz=>?_)
   rcases List.mem_cons.1 (h z hz) with rfl | hz2
   ·have h1:=hw1 x hx
    rcases List.mem_cons.1 hz with rfl | hz3
    ·omega
    ·have:=hv1 _ hz3;omega
   ·exact hz2
def combos (below:Nat):Nat→Nat→List (List Int)
 | 0,_=>[[]]
 | n + 1,f=>(List.range' f (below - f)).flatMap fun i=>(combos below n (i + 1)).map ((i:Int) :: ·)
theorem mem_combos {below:Nat}:∀ {n f:Nat} {v:List Int},v ∈ combos below n f ↔ v.length=n∧v.Pairwise (· < ·)∧∀ x ∈ v,(f:Int)≤x∧x < (below:Int)
 | 0,f,v=>by
  rw [combos,List.mem_singleton]
  constructor
  ·rintro rfl;exact ⟨rfl,List.Pairwise.nil,fun x h=>by cases h⟩
  ·rintro ⟨h,-⟩;exact List.length_eq_zero_iff.1 h
 | n + 1,f,v=>by
  rw [combos,List.mem_flatMap]
  constructor
  ·rintro ⟨i,hi,h⟩
   obtain ⟨u,hu,rfl⟩:=List.mem_map.1 h
   obtain ⟨h1,h2,h3⟩:=mem_combos.1 hu
   rw [List.mem_range'_1] at hi
   refine ⟨by rw [List.length_cons,h1],List.pairwise_cons.2 ⟨fun x hx=>?_,h2⟩,fun x hx=>?_⟩
   ·have:=h3 x hx;omega
   ·rcases List.mem_cons.1 hx with rfl | hx
    ·omega
    ·have:=h3 x hx;omega
  ·rintro ⟨h1,h2,h3⟩
   cases v with
   | nil=>cases h1
   | cons x v =>
    obtain ⟨g1,g2⟩:=List.pairwise_cons.1 h2
    have g3:=h3 x (List.mem_cons_self ..)
    refine ⟨x.toNat,by rw [List.mem_range'_1];omega,List.mem_map.2 ⟨v,mem_combos.2 ⟨by rw [List.length_cons] at h1;omega,g2,fun y hy=>?_⟩,by rw [Int.toNat_of_nonneg (by omega)]⟩⟩
    have:=g1 y hy
    have:=h3 y (List.mem_cons_of_mem _ hy)
    omega
def part (a b:List Int):Bool:=a.all fun x=>b.any (· == x)
def ownGo (ok:List Int→Bool):List (List Int)→List (List Int)→List (List Int)
 | own,[]=>own
 | own,v :: rest=>ownGo ok (if !(own.any fun u=>part u v) && !ok v then own ++ [v] else own) rest
def allSets (n:Nat):List (List Int):=(List.range n).flatMap fun k=>combos n (k + 1) 0
def own (ok:List Int→Bool) (n:Nat):List (List Int):=ownGo ok [] (allSets n)
def hit (bl:List (Nat × List Int)) (sh:List (List Int)):Bool:=bl.any fun b=>part b.2 ((sh[b.1]?).getD [])
end A
namespace K
theorem sub_mask:∀ {v w:List Int},v.Sublist w→∃ m,part w m=v
 | _,_,.slnil=>⟨0,rfl⟩
 | _,_,.cons a h=>by
  obtain ⟨m,e⟩:=sub_mask h
  refine ⟨2 * m,?_⟩
  have h1:(2 * m).testBit 0=false:=by rw [Nat.testBit_zero];simp
  rw [part,if_neg (by rw [h1];simp),show 2 * m / 2=m by omega,e]
 | _,_,.cons_cons a h=>by
  obtain ⟨m,e⟩:=sub_mask h
  refine ⟨2 * m + 1,?_⟩
  have h1:(2 * m + 1).testBit 0=true:=by rw [Nat.testBit_zero];simp
  rw [part,if_pos h1,show (2 * m + 1) / 2=m by omega,e]
def badS (nd:Int) (s:S):Bool:=!(T.check s == 0) || decide (nd≤s.depot)
def badQ (nd:Int) (q:Q):Bool:=!T.right q || decide (nd≤q.node)
def pcheck (nd:Int) (l:List Ro) (ss:List S) (r:List Q):Int :=
 if netErr nd l == 0 && (decide (ss.length≤4) && (!(ss.any (badS nd)) && !(r.any (badQ nd)))) then (if 6 < r.length then 6 else 0) else 1
def feas (nd:Int) (l:List Ro) (ss:List S) (r:List Q) (s:Nat) (v:List Int):Bool:=match ss[s]? with
 | none=>false
 | some x=>(bestOut nd l x r v).2 == 0
def toursOf (nd:Int) (l:List Ro) (ss:List S) (r:List Q) (d:List Nat):List (Nat × Tr) :=
 (List.range ss.length).filterMap fun s=>if (A.share d s 0).isEmpty then none else match ss[s]? with
  | none=>none
  | some x=>(best nd l x r (A.share d s 0)).map fun t=>(s,t)
def plan (nd:Int) (l:List Ro) (ss:List S) (r:List Q):List (Nat × Tr) × Int :=
 if pcheck nd l ss r=0 then (match A.first (feas nd l ss r) ss.length r.length with
  | none=>([],4)
  | some d=>(toursOf nd l ss r d,0)) else ([],pcheck nd l ss r)
def sets32 (nd:Int) (l:List Ro) (ss:List S) (r:List Q):List (Nat × List Int):=(List.range ss.length).flatMap fun s=>(A.own (feas nd l ss r s) r.length).map fun v=>(s,v)
def blk32 (nd:Int) (l:List Ro) (ss:List S) (r:List Q) (b:Nat × List Int):Nat × List Int × List Lb:=(b.1,b.2,match ss[b.1]? with | none=>[] | some x=>labs nd l x r b.2)
def refute (nd:Int) (l:List Ro) (ss:List S) (r:List Q):List (Nat × List Int × List Lb) × Int :=
 if (plan nd l ss r).2=0 then ([],7) else if (plan nd l ss r).2=4 then ((sets32 nd l ss r).map (blk32 nd l ss r),0) else ([],(plan nd l ss r).2)
def checkGo (nd:Int) (l:List Ro) (ss:List S) (r:List Q):Int→List Int→List (Int × Tr)→Int
 | _,served,[]=>if served.length < r.length then 4 else 0
 | last,served,t :: rest=>match (if t.1 < 0 then none else ss[t.1.toNat]?) with
  | none=>1
  | some x=>if t.1≤last then 5 else if t.2.stops.isEmpty || !(check nd l x r t.2) then 24 else if t.2.stops.any (fun k=>served.any (· == k)) then 5 else checkGo nd l ss r t.1 (served ++ t.2.stops) rest
def checks (nd:Int) (l:List Ro) (ss:List S) (r:List Q) (ts:List (Int × Tr)):Int :=
 if pcheck nd l ss r=0 then checkGo nd l ss r (-1) [] ts else pcheck nd l ss r
section
variable {nd : Int} {l : List Ro} {ss : List S} {r : List Q}
theorem bestOut_zero {s:S} {v:List Int}:(bestOut nd l s r v).2=0 ↔ ok31 nd l s r v=true∧∃ t,best nd l s r v=some t:=by
 unfold bestOut
 constructor
 ·intro h
  split at h
  ·rename_i h1
   refine ⟨h1,?_⟩
   split at h
   ·rename_i t ht;exact ⟨t,ht⟩
   ·cases h
  ·cases h
 ·rintro ⟨h1,t,h2⟩
  rw [if_pos h1,h2]
theorem best_sub {s:S} {v w:List Int} (h:v.Sublist w) (hw:(bestOut nd l s r w).2=0):(bestOut nd l s r v).2=0:=by
 obtain ⟨h1,t,h2⟩:=bestOut_zero.1 hw
 obtain ⟨m,rfl⟩:=sub_mask h
 obtain ⟨u,h3,-⟩:=less_law h1 m h2
 exact bestOut_zero.2 ⟨ok31_part m h1,u,h3⟩
theorem feas_mono:A.MonoS (feas nd l ss r):=fun s v w h hw=>by
 unfold feas at hw ⊢
 cases hs:ss[s]? with
 | none=>rw [hs] at hw;cases hw
 | some x =>
  rw [hs] at hw
  exact beq_iff_eq.2 (best_sub h (beq_iff_eq.1 hw))
theorem pcheck_ok (h:pcheck nd l ss r=0):netErr nd l=0∧ss.length≤4∧(∀ s ∈ ss,T.check s=0∧s.depot < nd)∧(∀ q ∈ r,T.right q=true∧q.node < nd)∧r.length≤6:=by
 unfold pcheck at h
 split at h
 ·rename_i h1
  split at h
  ·cases h
  ·rename_i h2
   simp only [Bool.and_eq_true,beq_iff_eq,decide_eq_true_eq,Bool.not_eq_true',List.any_eq_false,badS,badQ,Bool.or_eq_true,not_or,Bool.not_eq_false] at h1
   obtain ⟨g1,g2,g3,g4⟩:=h1
   refine ⟨g1,g2,fun s hs=>?_,fun q hq=>?_,by omega⟩
   ·have:=g3 s hs
    simp at this
    exact this
   ·have:=g4 q hq
    simp at this
    exact this
 ·cases h
theorem ok31_of (h:pcheck nd l ss r=0) {s:S} (hs:s ∈ ss) {v:List Int} (hv:v.Pairwise (· < ·)) (hm:∀ x ∈ v,0≤x∧x < (r.length:Int)):ok31 nd l s r v=true:=by
 obtain ⟨h1,h2,h3,h4,h5⟩:=pcheck_ok h
 have hlen:v.length≤6:=by
  have hn:v.Nodup:=hv.imp fun h=>Int.ne_of_lt h
  have hsub:=A.sub_of_sorted (w:=(List.range r.length).map fun (i:Nat)=>(i:Int)) hv (by
   rw [List.pairwise_map]
   exact List.pairwise_lt_range.imp fun h=>by omega) (fun x hx=>List.mem_map.2 ⟨x.toNat,by have:=hm x hx;rw [List.mem_range];omega,by have:=hm x hx;omega⟩)
  have:=hsub.length_le
  rw [List.length_map,List.length_range] at this
  omega
 have hreq:∀ x ∈ v,req r x ∈ r:=fun x hx=>by
  have hb:=hm x hx
  have hlt:x.toNat < r.length:=by omega
  unfold req
  rw [List.getElem?_eq_getElem hlt]
  exact List.getElem_mem hlt
 simp only [ok31,Bool.and_eq_true,beq_iff_eq,decide_eq_true_eq,Bool.not_eq_true',List.any_eq_false]
 refine ⟨h1,(h3 s hs).1,(h3 s hs).2,fun q hq=>by simp [(h4 q hq).1],hlen,(setGo_iff _ _).2 ⟨fun k hk=>⟨(hm k hk).1,(hm k hk).2,by have:=(hm k hk).1;omega,(h4 _ (hreq k hk)).2⟩,hv⟩⟩
theorem feas_iff (h:pcheck nd l ss r=0) {k:Nat} {v:List Int} (hv:v.Pairwise (· < ·)) (hm:∀ x ∈ v,0≤x∧x < (r.length:Int)):feas nd l ss r k v=true ↔ ∃ s t,ss[k]? = some s∧best nd l s r v=some t:=by
 unfold feas
 cases hs:ss[k]? with
 | none=>simp
 | some x =>
  simp only [beq_iff_eq,bestOut_zero]
  constructor
  ·rintro ⟨-,t,ht⟩;exact ⟨x,t,rfl,ht⟩
  ·rintro ⟨s,t,e,ht⟩
   injection e with e
   subst e
   exact ⟨ok31_of h (List.mem_of_getElem? hs) hv hm,t,ht⟩
theorem first_some {B:Nat→List Int→Bool} {m n:Nat} {d:List Nat} (h:A.first B m n=some d):d.length=n∧(∀ s ∈ d,s < m)∧∀ s < m,A.share d s 0=[]∨B s (A.share d s 0)=true:=by
 obtain ⟨h1,h2⟩:=A.mem_exts.1 (List.mem_of_find?_eq_some h)
 have h3:=List.find?_some h
 refine ⟨h1,h2,fun s hs=>?_⟩
 rcases Bool.or_eq_true_iff.1 (List.all_eq_true.1 h3 s (List.mem_range.2 hs)) with h4 | h4
 ·exact .inl (List.isEmpty_iff.1 h4)
 ·exact .inr h4
theorem plan_cases (h:pcheck nd l ss r=0):((plan nd l ss r)=([],4)∧A.first (feas nd l ss r) ss.length r.length=none)∨∃ d,A.first (feas nd l ss r) ss.length r.length=some d∧plan nd l ss r=(toursOf nd l ss r d,0):=by
 unfold plan
 rw [if_pos h]
 cases A.first (feas nd l ss r) ss.length r.length with
 | none=>exact .inl ⟨rfl,rfl⟩
 | some d=>exact .inr ⟨d,rfl,rfl⟩
theorem plan_err (h:pcheck nd l ss r ≠ 0):plan nd l ss r=([],pcheck nd l ss r):=by unfold plan;rw [if_neg h]
theorem plan_0 (h:(plan nd l ss r).2=0):pcheck nd l ss r=0∧∃ d,A.first (feas nd l ss r) ss.length r.length=some d∧plan nd l ss r=(toursOf nd l ss r d,0):=by
 by_cases h1:pcheck nd l ss r=0
 ·rcases plan_cases h1 with ⟨h2,h3⟩ | ⟨d,g,h2⟩
  ·rw [h2] at h;cases h
  ·exact ⟨h1,d,g,h2⟩
 ·rw [plan_err h1] at h
  exact absurd h h1
theorem check_run {s:S} {t:Tr} (h:check nd l s r t=true):(run nd l s r t.stops).e=0∧(∀ x ∈ t.stops,0≤x∧x < (r.length:Int))∧t.stops.Nodup:=by
 unfold check at h
 simp only [Bool.and_eq_true,beq_iff_eq,decide_eq_true_eq] at h
 obtain ⟨h1,-⟩:=h
 have h2:=T.isSet_iff.1 (T.load_parts (right_parts (run_ok h1).1).2.1).2.1
 exact ⟨h1,h2.1,h2.2⟩
theorem check_best {s:S} {v:List Int} (hok:ok31 nd l s r v=true) {t:Tr} (h:best nd l s r v=some t):check nd l s r t=true∧t.stops.Perm v:=by
 obtain ⟨h1,h2,-⟩:=best_tour hok h
 refine ⟨?_,h1⟩
 unfold check
 simp [h2]
theorem len_sub:∀ {a b:List Int},a.Nodup→(∀ x ∈ a,x ∈ b)→a.length≤b.length
 | [],_,_,_=>Nat.zero_le _
 | x :: a,b,hn,h=>by
  obtain ⟨h1,h2⟩:=List.nodup_cons.1 hn
  have hx:=h x (List.mem_cons_self ..)
  have:=len_sub (b:=b.erase x) h2 fun y hy=>(List.mem_erase_of_ne (fun e=>h1 (by rw [←e];exact hy))).2 (h y (List.mem_cons_of_mem _ hy))
  rw [List.length_erase_of_mem hx] at this
  have:=List.length_pos_of_mem hx
  rw [List.length_cons];omega
theorem checkGo_tours (h:pcheck nd l ss r=0) {d:List Nat} (hd:A.first (feas nd l ss r) ss.length r.length=some d) :
  ∀ (k j:Nat) (last:Int) (served:List Int),j + k=ss.length→last < (j:Int)→(∀ x,x ∈ served ↔ ∃ s,s < j∧x ∈ A.share d s 0)→served.Nodup →
   checkGo nd l ss r last served (((List.range' j k).filterMap fun s=>if (A.share d s 0).isEmpty then none else match ss[s]? with
    | none=>none
    | some x=>(best nd l x r (A.share d s 0)).map fun t=>(s,t)).map fun t=>((t.1:Int),t.2))=0:=by
 obtain ⟨d1,d2,d3⟩:=first_some hd
 have disj:∀ (s s':Nat) (x:Int),x ∈ A.share d s 0→x ∈ A.share d s' 0→s=s':=by
  have key:∀ (d:List Nat) (i:Int) (s s':Nat) (x:Int),x ∈ A.share d s i→x ∈ A.share d s' i→s=s':=by
   intro d
   induction d with
   | nil=>intro i s s' x h;cases h
   | cons y d ih =>
    intro i s s' x h h'
    rw [A.share] at h h'
    split at h
    ·rename_i e1
     split at h'
     ·rename_i e2;rw [←e1,←e2]
     ·rcases List.mem_cons.1 h with rfl | h
      ·have:=A.share_mem h';omega
      ·exact ih _ _ _ _ h h'
    ·split at h'
     ·rcases List.mem_cons.1 h' with rfl | h'
      ·have:=A.share_mem h;omega
      ·exact ih _ _ _ _ h h'
     ·exact ih _ _ _ _ h h'
  exact key d 0
 have all:∀ x:Int,0≤x→x < (r.length:Int)→∃ s,s < ss.length∧x ∈ A.share d s 0:=by
  have key:∀ (d:List Nat) (i x:Int),i≤x→x < i + d.length→∃ s ∈ d,x ∈ A.share d s i:=by
   intro d
   induction d with
   | nil=>intro i x h1 h2;rw [List.length_nil] at h2;omega
   | cons y d ih =>
    intro i x h1 h2
    rw [List.length_cons] at h2
    by_cases e:x=i
    ·exact ⟨y,List.mem_cons_self ..,by rw [A.share,if_pos rfl,e];exact List.mem_cons_self ..⟩
    ·obtain ⟨s,hs,hx⟩:=ih (i + 1) x (by omega) (by omega)
     refine ⟨s,List.mem_cons_of_mem _ hs,?_⟩
     rw [A.share]
     split
     ·exact List.mem_cons_of_mem _ hx
     ·exact hx
  intro x h1 h2
  obtain ⟨s,hs,hx⟩:=key d 0 x h1 (by omega)
  exact ⟨s,d2 s hs,hx⟩
 intro k
 induction k with
 | zero =>
  intro j last served hj _ hmem hnd
  rw [List.range'_zero]
  show (if served.length < r.length then (4:Int) else 0)=0
  rw [if_neg]
  have hsub:=len_sub (a:=(List.range r.length).map fun (i:Nat)=>(i:Int)) (b:=served) (List.pairwise_map.2 (List.nodup_range.imp fun h e=>h (by omega))) fun x hx=>by
   obtain ⟨i,hi,rfl⟩:=List.mem_map.1 hx
   rw [List.mem_range] at hi
   obtain ⟨s,hs,hx⟩:=all i (by omega) (by omega)
   exact (hmem _).2 ⟨s,by omega,hx⟩
  rw [List.length_map,List.length_range] at hsub
  omega
 | succ k ih =>
  intro j last served hj hlast hmem hnd
  rw [List.range'_succ,List.filterMap_cons]
  have hjm:j < ss.length:=by omega
  rcases d3 j hjm with he | hB
  ·rw [he]
   simp only [List.isEmpty_nil,if_true]
   refine ih (j + 1) last served (by omega) (by omega) (fun x=>?_) hnd
   rw [hmem]
   constructor
   ·rintro ⟨s,hs,hx⟩;exact ⟨s,by omega,hx⟩
   ·rintro ⟨s,hs,hx⟩
    refine ⟨s,?_,hx⟩
    rcases Nat.lt_succ_iff_lt_or_eq.1 hs with h1 | rfl
    ·exact h1
    ·rw [he] at hx;cases hx
  ·by_cases he:A.share d j 0=[]
   ·rw [he]
    simp only [List.isEmpty_nil,if_true]
    refine ih (j + 1) last served (by omega) (by omega) (fun x=>?_) hnd
    rw [hmem]
    constructor
    ·rintro ⟨s,hs,hx⟩;exact ⟨s,by omega,hx⟩
    ·rintro ⟨s,hs,hx⟩
     refine ⟨s,?_,hx⟩
     rcases Nat.lt_succ_iff_lt_or_eq.1 hs with h1 | rfl
     ·exact h1
     ·rw [he] at hx;cases hx
   ·have hbd:∀ x ∈ A.share d j 0,0≤x∧x < (r.length:Int):=fun x hx=>by have:=A.share_mem hx;omega
    obtain ⟨x,t,hs,ht⟩:=(feas_iff h (A.share_sorted _ _ _) hbd).1 hB
    have hok:=ok31_of h (List.mem_of_getElem? hs) (A.share_sorted d j 0) hbd
    obtain ⟨hck,hperm⟩:=check_best hok ht
    have hne:(A.share d j 0).isEmpty=false:=by
     cases hsh:A.share d j 0 with
     | nil=>exact absurd hsh he
     | cons a b=>rfl
    simp only [hne,hs,ht,Bool.false_eq_true,if_false,Option.map_some,List.map_cons]
    show checkGo nd l ss r last served (((j:Int),t) :: _)=0
    unfold checkGo
    simp only [if_neg (show ¬ ((j:Int) < 0) by omega),Int.toNat_natCast,hs,if_neg (show ¬ ((j:Int)≤last) by omega)]
    have hst:t.stops.isEmpty=false:=by
     cases hsh:t.stops with
     | nil=>rw [hsh] at hperm;exact absurd hperm.symm.eq_nil he
     | cons a b=>rfl
    rw [hst,hck,if_neg (by simp)]
    have hno:(t.stops.any fun k=>served.any (· == k))=false:=by
     rw [List.any_eq_false]
     intro y hy h9
     obtain ⟨z,hz,e⟩:=List.any_eq_true.1 h9
     rw [beq_iff_eq.1 e] at hz
     obtain ⟨s,hs1,hx⟩:=(hmem y).1 hz
     have:=disj s j y hx (hperm.mem_iff.1 hy)
     omega
    rw [hno,if_neg (by simp)]
    refine ih (j + 1) j (served ++ t.stops) (by omega) (by omega) (fun y=>?_) ?_
    ·rw [List.mem_append,hmem,hperm.mem_iff]
     constructor
     ·rintro (⟨s,hs1,hx⟩ | hx)
      ·exact ⟨s,by omega,hx⟩
      ·exact ⟨j,by omega,hx⟩
     ·rintro ⟨s,hs1,hx⟩
      rcases Nat.lt_succ_iff_lt_or_eq.1 hs1 with h1 | rfl
      ·exact .inl ⟨s,h1,hx⟩
      ·exact .inr hx
    ·rw [List.nodup_append]
     refine ⟨hnd,hperm.nodup_iff.2 ((A.share_sorted d j 0).imp fun h=>Int.ne_of_lt h),fun a ha b hb e=>?_⟩
     subst e
     obtain ⟨s,hs1,hx⟩:=(hmem a).1 ha
     have:=disj s j a hx (hperm.mem_iff.1 hb)
     omega
theorem plan_checks (h:(plan nd l ss r).2=0):checks nd l ss r ((plan nd l ss r).1.map fun t=>((t.1:Int),t.2))=0:=by
 obtain ⟨h1,d,h2,h3⟩:=plan_0 h
 rw [h3]
 unfold checks
 rw [if_pos h1]
 have:=checkGo_tours h1 h2 ss.length 0 (-1) [] (by omega) (by omega) (fun x=>by simp) List.nodup_nil
 rw [←List.range_eq_range'] at this
 exact this
end
end K
namespace K
section
variable {nd : Int} {l : List Ro} {ss : List S} {r : List Q}
structure Good (nd:Int) (l:List Ro) (ss:List S) (r:List Q) (t:Int × Tr):Prop where
 pos:0≤t.1
 sh:∃ x,ss[t.1.toNat]? = some x∧check nd l x r t.2=true
 ne:t.2.stops ≠ []
theorem checkGo_parts:∀ (ts:List (Int × Tr)) (last:Int) (served:List Int),checkGo nd l ss r last served ts=0 →
  (∀ t ∈ ts,last < t.1∧Good nd l ss r t)∧ts.Pairwise (fun a b=>a.1 < b.1∧∀ x ∈ a.2.stops,x ∉ b.2.stops)∧(∀ t ∈ ts,∀ x ∈ t.2.stops,x ∉ served)∧r.length≤(served ++ ts.flatMap fun t=>t.2.stops).length
 | [],last,served,h=>by
  refine ⟨fun t h=>(by cases h),List.Pairwise.nil,fun t h=>(by cases h),?_⟩
  unfold checkGo at h
  split at h
  ·cases h
  ·rw [List.flatMap_nil,List.append_nil];omega
 | t :: ts,last,served,h=>by
  unfold checkGo at h
  by_cases hneg:t.1 < 0
  ·rw [if_pos hneg] at h;cases h
  ·rw [if_neg hneg] at h
   cases hs:ss[t.1.toNat]? with
   | none=>rw [hs] at h;cases h
   | some x =>
    rw [hs] at h
    dsimp only at h
    split at h
    ·cases h
    ·rename_i h1
     split at h
     ·cases h
     ·rename_i h2
      split at h
      ·cases h
      ·rename_i h3
       rw [Bool.or_eq_true,not_or,List.isEmpty_iff] at h2
       obtain ⟨i1,i2,i3,i4⟩:=checkGo_parts ts t.1 (served ++ t.2.stops) h
       have hg:Good nd l ss r t:=⟨by omega,⟨x,hs,by simpa using h2.2⟩,h2.1⟩
       refine ⟨fun u hu=>?_,List.pairwise_cons.2 ⟨fun u hu=>⟨(i1 u hu).1,fun y hy hy2=>i3 u hu y hy2 (List.mem_append_right _ hy)⟩,i2⟩,fun u hu y hy hy2=>?_,?_⟩
       ·rcases List.mem_cons.1 hu with rfl | hu
        ·exact ⟨by omega,hg⟩
        ·exact ⟨by have:=(i1 u hu).1;omega,(i1 u hu).2⟩
       ·rcases List.mem_cons.1 hu with rfl | hu
        ·refine h3 (List.any_eq_true.2 ⟨y,hy,List.any_eq_true.2 ⟨y,hy2,beq_self_eq_true _⟩⟩)
        ·exact i3 u hu y hy (List.mem_append_left _ hy2)
       ·rw [List.flatMap_cons,←List.append_assoc];exact i4
end
end K
def Q.bare (q:Q):Q:=⟨q.node,q.room,q.kilos,q.service,q.frm,q.by_,none,0,0,q.l⟩
def S.bare (s:S):S:=⟨s.day,s.depot,s.start,s.end_,s.tare,none,0,0,s.l⟩
namespace T
theorem any_bare (r:List Q):((r.map Q.bare).any fun q=>!right q)=r.any fun q=>!right q:=by rw [List.any_map];rfl
theorem load_bare (s:S) (r:List Q) (l:List Int):load s.bare (r.map Q.bare) l=load s r l:=by
 unfold load
 rw [any_bare,List.length_map]
 rfl
theorem kilo_bare (r:List Q) (j i:Int):kilo (r.map Q.bare) j i=kilo r j i:=by
 unfold kilo
 rw [List.getElem?_map]
 cases r[i.toNat]? <;> rfl
theorem room_bare (r:List Q) (j:Int):∀ l,room (r.map Q.bare) j l=room r j l
 | []=>rfl
 | i :: l=>by rw [room,room,kilo_bare,room_bare r j l]
theorem loads_bare (r:List Q) (l:List Int):loads (r.map Q.bare) l=loads r l:=by simp only [loads,room_bare]
theorem fits_bare (s:S) (r:List Q) (l:List Int):fits s.bare (r.map Q.bare) l=fits s r l:=by
 unfold fits
 rw [load_bare,loads_bare]
 rfl
theorem weight_bare (s:S) (r:List Q) (l:List Int):weight s.bare (r.map Q.bare) l=weight s r l:=by
 unfold weight
 rw [load_bare,loads_bare]
 rfl
end T
namespace K
theorem req_bare (r:List Q) (i:Int):req (r.map Q.bare) i=(req r i).bare:=by
 unfold req
 rw [List.getElem?_map]
 cases r[i.toNat]? <;> rfl
section
variable (nd : Int) (l : List Ro) (s : S) (r : List Q)
theorem setGo_bare:∀ (v:List Int) (p:Int),setGo nd (r.map Q.bare) p v=setGo nd r p v
 | [],_=>rfl
 | k :: v,p=>by rw [setGo,setGo,setGo_bare v k,req_bare,List.length_map];rfl
theorem ok31_bare (v:List Int):ok31 nd l s.bare (r.map Q.bare) v=ok31 nd l s r v:=by
 unfold ok31
 rw [T.any_bare,setGo_bare]
 rfl
theorem begins_bare (q:Q) (all:List Int) (arr:Int):begins s.bare (r.map Q.bare) q.bare all arr=begins s r q all arr:=by
 unfold begins
 rw [T.fits_bare]
 rfl
theorem home_bare (v:List Int) (st:St) (b:Option Tr):home nd l s.bare (r.map Q.bare) v st b=home nd l s r v st b:=by
 unfold home
 rw [T.weight_bare]
 rfl
theorem onward_bare (v:List Int) (st:St) (i:Nat) (k:Int):onward nd l s.bare (r.map Q.bare) v st i k=onward nd l s r v st i k:=by
 unfold onward
 rw [T.weight_bare,req_bare,begins_bare]
 rfl
theorem go_bare (rec:St→Option Tr→Option Tr) (v:List Int) (st:St):∀ (rest:List Int) (b:Option Tr) (i:Nat),seek.go rec nd l s.bare (r.map Q.bare) v st b i rest=seek.go rec nd l s r v st b i rest
 | [],_,_=>rfl
 | k :: rest,b,i=>by
  rw [seek.go,seek.go,onward_bare]
  cases onward nd l s r v st i k with
  | none=>exact go_bare rec v st rest b (i + 1)
  | some st'=>exact go_bare rec v st rest (rec st' b) (i + 1)
theorem seek_bare (v:List Int):∀ (f:Nat) (st:St) (b:Option Tr),seek nd l s.bare (r.map Q.bare) v f st b=seek nd l s r v f st b
 | 0,_,_=>rfl
 | f + 1,st,b=>by
  rw [seek,seek,home_bare,go_bare]
  have:seek nd l s.bare (r.map Q.bare) v f=seek nd l s r v f:=by funext st b;exact seek_bare v f st b
  rw [this]
theorem best_bare (v:List Int):best nd l s.bare (r.map Q.bare) v=best nd l s r v:=seek_bare nd l s r v _ _ _
theorem bestOut_bare (v:List Int):bestOut nd l s.bare (r.map Q.bare) v=bestOut nd l s r v:=by
 unfold bestOut
 rw [ok31_bare,best_bare]
theorem label_bare (v row:List Int) (rest i:Nat) (q:Q):label nd l s.bare (r.map Q.bare) v row rest i q.bare=label nd l s r v row rest i q:=by
 unfold label labelOf arrives
 have hn:nodes (r.map Q.bare) v=nodes r v:=by
  unfold nodes
  refine List.map_congr_left fun k _=>?_
  rw [req_bare];rfl
 rw [hn,T.weight_bare,begins_bare]
 rfl
theorem rowOf_bare (v:List Int) (t:List (List Int)) (m:Nat):rowOf nd l s.bare (r.map Q.bare) v t m=rowOf nd l s r v t m:=by
 unfold rowOf
 refine List.map_congr_left fun k _=>?_
 rw [req_bare,label_bare]
theorem table_bare (v:List Int):∀ M,table nd l s.bare (r.map Q.bare) v M=table nd l s r v M
 | 0=>rfl
 | M + 1=>by rw [table,table,table_bare v M,rowOf_bare]
theorem labs_bare (v:List Int):labs nd l s.bare (r.map Q.bare) v=labs nd l s r v:=by
 unfold labs
 rw [ok31_bare,table_bare]
variable (ss : List S)
theorem pcheck_bare:pcheck nd l (ss.map S.bare) (r.map Q.bare)=pcheck nd l ss r:=by
 unfold pcheck
 rw [List.length_map,List.length_map,List.any_map,List.any_map]
 rfl
theorem feas_bare:feas nd l (ss.map S.bare) (r.map Q.bare)=feas nd l ss r:=by
 funext k v
 unfold feas
 rw [List.getElem?_map]
 cases ss[k]? with
 | none=>rfl
 | some x=>show ((bestOut nd l x.bare (r.map Q.bare) v).2 == 0)=_;rw [bestOut_bare]
theorem toursOf_bare (d:List Nat):toursOf nd l (ss.map S.bare) (r.map Q.bare) d=toursOf nd l ss r d:=by
 unfold toursOf
 rw [List.length_map]
 congr 1
 funext k
 rw [List.getElem?_map]
 cases ss[k]? with
 | none=>rfl
 | some x =>
  show (if _ then none else (best nd l x.bare (r.map Q.bare) _).map _)=_
  rw [best_bare]
theorem plan_bare:plan nd l (ss.map S.bare) (r.map Q.bare)=plan nd l ss r:=by
 unfold plan
 rw [pcheck_bare,feas_bare,List.length_map,List.length_map]
 simp only [toursOf_bare]
theorem refute_bare:refute nd l (ss.map S.bare) (r.map Q.bare)=refute nd l ss r:=by
 unfold refute
 rw [plan_bare]
 have h1:sets32 nd l (ss.map S.bare) (r.map Q.bare)=sets32 nd l ss r:=by
  unfold sets32
  rw [feas_bare,List.length_map,List.length_map]
 have h2:blk32 nd l (ss.map S.bare) (r.map Q.bare)=blk32 nd l ss r:=by
  funext b
  unfold blk32
  rw [List.getElem?_map]
  cases ss[b.1]? with
  | none=>rfl
  | some x=>show (b.1,b.2,labs nd l x.bare (r.map Q.bare) b.2)=_;rw [labs_bare]
 rw [h1,h2]
end
end K
end Go.Proofs.Ytippdjmpkafifaa
