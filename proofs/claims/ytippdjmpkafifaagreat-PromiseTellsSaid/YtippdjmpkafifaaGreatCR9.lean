import Derived.Test.YtippdjmpkafifaaGreatCR8
import Derived.Test.YtippdjmpkafifaaGreatCR7
set_option maxRecDepth 100000
set_option maxHeartbeats 64000000
namespace Go.Proofs.YtippdjmpkafifaaGreat
open Go.RowKit
namespace K
structure mV (nd:Int) (l:List Ro) (s:S) (r:List Q) (v:ag):Prop where
 len:v.length<=6
 ok:∀ i ∈ v,0<=(req r i).service/\(req r i).service<=1000000/\H.right (req r i).l=true
 start:0<=s.start
 end_:s.end_<=1000000
theorem ru {nd:Int} {l:List Ro} {s:S} {r:List Q} {v:ag} (h:bF nd l s r v=true):mV nd l s r v:=by
 obtain ⟨-,hck,-,hrq,dP,hgo⟩:=jl h;obtain ⟨-,-,st0,st1,tC⟩:=tu hck;refine ⟨dP,λi hi=>?_,st0,tC⟩;obtain ⟨h0,h1,-⟩:=Jl _ _ hgo _ hi;obtain ⟨q,hq⟩:∃ q,r[i.toNat]? = some q:=⟨_,zF (by omega)⟩;have hi2:i=(i.toNat:Int):=by omega
 rw [hi2,lZ hq];obtain ⟨-,hs,hr⟩:=Dl (hrq q (zD hq));exact ⟨hs.1,hs.2,hr⟩
section
variable {nd : Int} {l : List Ro} {s : S} {r : List Q} {v : ag}
def Step (nd:Int) (l:List Ro) (s:S) (r:List Q) (v:ag) (a b:St):Prop:=∃ i k,v[i]? = some k/\jW nd l s r v a i k=some b
def Home (nd:Int) (l:List Ro) (s:S) (r:List Q) (v:ag) (c:St) (t:Tr):Prop :=
 c.bits=2 ^ v.length - 1/\way nd l c.a (T.weight s r (part v c.bits)) s.ax ≠ -1/\c.t + way nd l c.a (T.weight s r (part v c.bits)) s.ax<=s.end_ /\
  t=⟨c.stops,c.times,c.t + way nd l c.a (T.weight s r (part v c.bits)) s.ax⟩
inductive Ends (nd:Int) (l:List Ro) (s:S) (r:List Q) (v:ag):St->Tr->Prop
 | home {c:St} {t:Tr} (h:Home nd l s r v c t):Ends nd l s r v c t
 | step {a b:St} {t:Tr} (h:Step nd l s r v a b) (h2:Ends nd l s r v b t):Ends nd l s r v a t
theorem xP {st st':St} {i:Nat} {k:Int} (h:jW nd l s r v st i k=some st') :
  st.bits.testBit i=false/\way nd l st.a (T.weight s r (part v st.bits)) (req r k).node ≠ -1 /\
  (begins s r (req r k) (part v (st.bits + 2 ^ i)) (st.t + way nd l st.a (T.weight s r (part v st.bits)) (req r k).node)).2=true /\
  st'=⟨st.bits + 2 ^ i,(req r k).node,(begins s r (req r k) (part v (st.bits + 2 ^ i)) (st.t + way nd l st.a (T.weight s r (part v st.bits)) (req r k).node)).1 + (req r k).service,
   st.stops ++ [k],st.times ++ [(begins s r (req r k) (part v (st.bits + 2 ^ i)) (st.t + way nd l st.a (T.weight s r (part v st.bits)) (req r k).node)).1]⟩:=by
 unfold jW at h;split at h
 ·cases h
 ·rename_i h1
  split at h
  ·cases h
  ·rename_i h2
   split at h
   ·cases h
   ·rename_i h3
    injection h with h;exact ⟨by simpa using h1,h2,by simpa using h3,h.symm⟩
theorem alY (hc:mV nd l s r v) {a b:St} (h:Step nd l s r v a b):a.t<=b.t:=by
 obtain ⟨i,k,hk,ho⟩:=h;obtain ⟨-,h2,h3,rfl⟩:=xP ho;have h4:=wW h3;have h5:=jY nd l a.a (T.weight s r (part v a.bits)) (req r k).node;have h6:=(hc.ok k (zD hk)).1;show a.t<=_ + _;omega
theorem YC (hc:mV nd l s r v) {a:St} {t:Tr} (h:Ends nd l s r v a t):a.t<=t.end_:=by
 induction h with
 | home h =>
  obtain ⟨-,h2,-,rfl⟩:=h;have h5:=jY nd l ‹St›.a (T.weight s r (part v ‹St›.bits)) s.ax;show _<=_ + _;omega
 | step h h2 ih=>exact Int.le_trans (alY hc h) ih
theorem YV {a b:St} (h:a.bits=2 ^ v.length - 1):¬ Step nd l s r v a b:=by
 rintro ⟨i,k,hk,ho⟩;obtain ⟨h1,-⟩:=xP ho;have hi:=(zE.1 hk).1;rw [h,Nat.testBit_two_pow_sub_one] at h1;simp [hi] at h1
theorem Jn (hc:mV nd l s r v) {a b:St} (h:Step nd l s r v a b) (ha:a.bits < 2 ^ v.length):b.bits < 2 ^ v.length/\a.bits < b.bits:=by
 obtain ⟨i,k,hk,ho⟩:=h;obtain ⟨h1,-,-,rfl⟩:=xP ho;have hi:=(zE.1 hk).1;have:=Nat.two_pow_pos i;exact ⟨XZ hc.len ha hi h1,by show a.bits < a.bits + 2 ^ i;omega⟩
structure J5 (P:Tr->Prop) (best R:Option Tr):Prop where
 sound:∀ t,R=some t->best=some t\/P t
 keeps:∀ b,best=some b->∃ t,R=some t/\t.end_<=b.end_
 least:∀ t,P t->∃ t',R=some t'/\t'.end_<=t.end_
theorem agR {rec:St->Option Tr->Option Tr} {st:St} (hrec:∀ st' b,Step nd l s r v st st'->J5 (Ends nd l s r v st') b (rec st' b)):∀ (rest:ag) (i:Nat) (best:Option Tr),v.drop i=rest ->
  J5 (λt=>∃ j k st',i<=j/\v[j]? = some k/\jW nd l s r v st j k=some st'/\Ends nd l s r v st' t) best (dU.go rec nd l s r v st best i rest):=by
 intro rest;induction rest with
 | nil =>
  intro i best hd;refine ⟨λt h=>.inl h,λb h=>⟨b,h,Int.le_refl _⟩,?_⟩;rintro t ⟨j,k,st',hj,hk,-⟩;have h1:=(zE.1 hk).1;have h2:v.length<=i:=by simpa using hd
  omega
 | cons k rest ih =>
  intro i best hd;have hk:v[i]? = some k:=by
   have h1:(v.drop i)[0]? = some k:=by rw [hd];rfl
   simpa using h1
  have hd2:v.drop (i + 1)=rest:=by
   have h1:(v.drop i).drop 1=rest:=by rw [hd];rfl
   simpa [List.drop_drop] using h1
  unfold dU.go;cases ho:jW nd l s r v st i k with
  | none =>
   obtain ⟨a1,a2,a3⟩:=ih (i + 1) best hd2;refine ⟨λt h=>(a1 t h).imp id ?_,a2,?_⟩
   ·rintro ⟨j,k',st',hj,h⟩;exact ⟨j,k',st',by omega,h⟩
   ·rintro t ⟨j,k',st',hj,hk',ho',he⟩;refine a3 t ⟨j,k',st',?_,hk',ho',he⟩;rcases Nat.eq_or_lt_of_le hj with rfl | hj
    ·rw [hk] at hk';injection hk' with hk';subst hk';rw [ho] at ho';cases ho'
    ·omega
  | some st1 =>
   obtain ⟨b1,b2,b3⟩:=hrec st1 best ⟨i,k,hk,ho⟩;obtain ⟨a1,a2,a3⟩:=ih (i + 1) (rec st1 best) hd2;refine ⟨λt h=>?_,λb h=>?_,?_⟩
   ·rcases a1 t h with h | ⟨j,k',st',hj,h⟩
    ·exact (b1 t h).imp id λh=>⟨i,k,st1,zG _,hk,ho,h⟩
    ·exact .inr ⟨j,k',st',by omega,h⟩
   ·obtain ⟨t,h1,h2⟩:=b2 b h;obtain ⟨t',h3,h4⟩:=a2 t h1;exact ⟨t',h3,by omega⟩
   ·rintro t ⟨j,k',st',hj,hk',ho',he⟩;rcases Nat.eq_or_lt_of_le hj with rfl | hj
    ·rw [hk] at hk';injection hk' with hk';subst hk';rw [ho] at ho';injection ho' with ho';subst ho';obtain ⟨t1,h1,h2⟩:=b3 t he;obtain ⟨t',h3,h4⟩:=a2 t1 h1;exact ⟨t',h3,by omega⟩
    ·exact a3 t ⟨j,k',st',by omega,hk',ho',he⟩
theorem alv (hc:mV nd l s r v):∀ (f:Nat) (st:St) (best:Option Tr),st.bits < 2 ^ v.length->2 ^ v.length<=st.bits + f->J5 (Ends nd l s r v st) best (dU nd l s r v f st best):=by
 intro f;induction f with
 | zero=>intro st best h1 h2;omega
 | succ f ih =>
  intro st best hb hf;unfold dU;split
  ·rename_i hl
   obtain ⟨b,rfl,hle⟩:∃ b,best=some b/\b.end_<=st.t:=by
    cases best with
    | none=>simp [late] at hl
    | some b=>exact ⟨b,rfl,by simpa [late] using hl⟩
   exact ⟨λt h=>.inl h,λb' h=>⟨b',h,Int.le_refl _⟩,λt h=>⟨b,rfl,Int.le_trans hle (YC hc h)⟩⟩
  ·split
   ·rename_i hl hfull
    have H7:∀ t,Ends nd l s r v st t->Home nd l s r v st t:=λt h=>by
     cases h with
     | home h=>exact h
     | step h h2=>exact absurd h (YV hfull)
    unfold home;split
    ·rename_i h
     obtain ⟨h1,h2,h3⟩:=h;refine ⟨λt ht=>.inr (.home ⟨hfull,h1,h2,?_⟩),λb hb=>⟨_,rfl,?_⟩,λt ht=>⟨_,rfl,?_⟩⟩
     ·injection ht with ht;exact ht.symm
     ·subst hb;simp only [better,gu] at h3;show _ + _<=_;omega
     ·obtain ⟨-,-,-,rfl⟩:=H7 t ht;exact Int.le_refl _
    ·rename_i h
     refine ⟨λt h=>.inl h,λb h=>⟨b,h,Int.le_refl _⟩,λt ht=>?_⟩;obtain ⟨-,h1,h2,rfl⟩:=H7 t ht;cases best with
     | none=>exact absurd ⟨h1,h2,rfl⟩ h
     | some b =>
      refine ⟨b,rfl,?_⟩;have h3:¬ better (some b) (st.t + way nd l st.a (T.weight s r (part v st.bits)) s.ax)=true:=λh4=>h ⟨h1,h2,h4⟩;simp only [better,gu] at h3;show b.end_<=_ + _;omega
   ·rename_i hl hfull
    have hg:=agR (nd:=nd) (l:=l) (s:=s) (r:=r) (v:=v) (rec:=dU nd l s r v f) (st:=st) (λst' b h=>ih st' b (Jn hc h hb).1 (by have:=(Jn hc h hb).2;omega)) v 0 best rfl;refine ⟨λt h=>(hg.sound t h).imp id ?_,hg.keeps,λt h=>?_⟩
    ·rintro ⟨j,k,st',-,hk,ho,he⟩;exact .step ⟨j,k,hk,ho⟩ he
    ·cases h with
     | home h=>exact absurd h.1 hfull
     | step h h2 =>
      obtain ⟨j,k,hk,ho⟩:=h;exact hg.least t ⟨j,k,_,aW _,hk,ho,h2⟩
def St.first (s:S):St:=⟨0,s.ax,s.start,[],[]⟩
theorem KF (hc:mV nd l s r v):J5 (Ends nd l s r v (St.first s)) none (best nd l s r v) :=
 alv hc _ _ _ (Nat.two_pow_pos _) (Nat.le_add_left _ _)
theorem afh (hc:mV nd l s r v):best nd l s r v=none ↔ ∀ t,¬ Ends nd l s r v (St.first s) t:=by
 have h:=KF hc;constructor
 ·intro hn t ht;obtain ⟨t',h1,-⟩:=h.least t ht;rw [hn] at h1;cases h1
 ·intro hn;cases hb:best nd l s r v with
  | none=>rfl
  | some t =>
   rcases h.sound t hb with h1 | h1
   ·cases h1
   ·exact absurd h1 (hn t)
end
end K
namespace K
section
variable {nd : Int} {l : List Ro} {s : S} {r : List Q} {v : ag}
theorem afc {q:Q} {all:ag} {x y:Int} (hr:H.right q.l=true) (hs:0<=q.service/\q.service<=1000000) (h0:0<=x) (hx:x<=y) (hok:(begins s r q all y).2=true) :
  (begins s r q all x).2=true/\(begins s r q all x).1<=(begins s r q all y).1:=by
 obtain ⟨hc,hf,he,hy0,hy1,hy2,hy3⟩:=wW hok;have hcx:¬ (s.day < q.aI\/q.aP < s.day\/s.end_ < x\/T.fits s r all=false):=by
  rintro (h | h | h | h)
  ·exact (hc ▸ (.inl h):False)
  ·exact (hc ▸ (.inr (.inl h)):False)
  ·exact (hc ▸ (.inr (.inr (.inl (by omega)))):False)
  ·exact (hc ▸ (.inr (.inr (.inr h))):False)
 obtain ⟨g1,g2⟩:=(H.KR hr (t:=x) (o:=y) (s:=q.service) ⟨h0,by omega⟩ hs ⟨hx,by omega⟩).1 hf;unfold begins;rw [if_neg hcx];have he2:(if s.day < q.aI\/q.aP < s.day\/s.end_ < y\/T.fits s r all=false then ((0:Int),false) else ((H.fit q.l y q.service).1,(H.fit q.l y q.service).2 && decide ((H.fit q.l y q.service).1 + q.service<=s.end_))).1=(H.fit q.l y q.service).1:=he;rw [he2];rw [he] at hy2;simp only [dH,gu];exact ⟨⟨g1,by omega⟩,g2⟩
def V4 (nd:Int) (l:List Ro) (wt tn:Int) (z:List (Int × Int)) (f x:Int):Prop:=(f ≠ -1/\x=f)\/∃ p ∈ z,p.2 ≠ -1/\way nd l p.1 wt tn ≠ -1/\x=p.2 + way nd l p.1 wt tn
theorem ajd (y f t:Int):(y ≠ -1/\t ≠ -1/\gm y f t=t + y/\(f=-1\/t + y < f))\/(gm y f t=f/\(y ≠ -1->t ≠ -1->f ≠ -1/\f<=t + y)):=by
 by_cases h:y ≠ -1/\t ≠ -1/\(f=-1\/t + y < f)
 ·exact .inl ⟨h.1,h.2.1,by unfold gm;rw [if_pos h],h.2.2⟩
 ·refine .inr ⟨by unfold gm;rw [if_neg h],λh1 h2=>?_⟩;have h3:¬ (f=-1\/t + y < f):=λh3=>h ⟨h1,h2,h3⟩;omega
theorem agz {wt tn:Int}:∀ (z:List (Int × Int)) (f:Int),-1<=f->(∀ p ∈ z,-1<=p.2) ->
  (firsts nd l wt tn z f ≠ -1->V4 nd l wt tn z f (firsts nd l wt tn z f))/\(∀ x,V4 nd l wt tn z f x->firsts nd l wt tn z f ≠ -1/\firsts nd l wt tn z f<=x):=by
 intro z;induction z with
 | nil =>
  intro f hf _;refine ⟨λh=>.inl ⟨h,rfl⟩,?_⟩;rintro x (⟨h,rfl⟩ | ⟨p,hp,-⟩)
  ·exact ⟨h,Int.le_refl _⟩
  ·cases hp
 | cons p z ih =>
  intro f hf hz;have hw:=jY nd l p.1 wt tn;have hp2:=hz p (dJ ..);have hstep:firsts nd l wt tn (p :: z) f=firsts nd l wt tn z (gm (way nd l p.1 wt tn) f p.2):=rfl;rw [hstep];rcases ajd (way nd l p.1 wt tn) f p.2 with ⟨h1,h2,he,h3⟩ | ⟨he,h3⟩
  ·rw [he];obtain ⟨a1,a2⟩:=ih (p.2 + way nd l p.1 wt tn) (by omega) (λq hq=>hz q (dN _ hq));refine ⟨λh=>?_,?_⟩
   ·rcases a1 h with ⟨-,e⟩ | ⟨q,hq,h⟩
    ·exact .inr ⟨p,dJ ..,h2,h1,e⟩
    ·exact .inr ⟨q,dN _ hq,h⟩
   ·rintro x (⟨hf1,rfl⟩ | ⟨q,hq,g1,g2,rfl⟩)
    ·have:=a2 (p.2 + way nd l p.1 wt tn) (.inl ⟨by omega,rfl⟩);omega
    ·rcases dw.1 hq with rfl | hq
     ·exact a2 _ (.inl ⟨by omega,rfl⟩)
     ·exact a2 _ (.inr ⟨q,hq,g1,g2,rfl⟩)
  ·rw [he];obtain ⟨a1,a2⟩:=ih f hf (λq hq=>hz q (dN _ hq));refine ⟨λh=>?_,?_⟩
   ·rcases a1 h with h | ⟨q,hq,h⟩
    ·exact .inl h
    ·exact .inr ⟨q,dN _ hq,h⟩
   ·rintro x (h | ⟨q,hq,g1,g2,rfl⟩)
    ·exact a2 _ (.inl h)
    ·rcases dw.1 hq with rfl | hq
     ·obtain ⟨f1,f2⟩:=h3 g2 g1;have:=a2 f (.inl ⟨f1,rfl⟩);omega
     ·exact a2 _ (.inr ⟨q,hq,g1,g2,rfl⟩)
theorem afr:∀ m:Fin 64,∀ i:Fin 6,m.val.testBit i.val=false->(m.val + 2 ^ i.val).testBit i.val=true:=by decide +kernel
theorem afq {m i:Nat} (hm:m < 64) (hi:i < 6) (h:m.testBit i=false):(m + 2 ^ i).testBit i=true:=afr ⟨m,hm⟩ ⟨i,hi⟩ h
def lab (nd:Int) (l:List Ro) (s:S) (r:List Q) (v:ag) (m i:Nat):Int:=((rowOf nd l s r v (table nd l s r v m) m)[i]?).getD (-1)
theorem IP (hc:mV nd l s r v) (m i:Nat):-1<=lab nd l s r v m i/\lab nd l s r v m i<=1000000:=by
 unfold lab;cases h:(rowOf nd l s r v (table nd l s r v m) m)[i]? with
 | none=>exact ⟨Int.le_refl _,by decide⟩
 | some x=>exact Oi (λk hk=>(hc.ok k hk).1) x (zD h)
inductive Hits (nd:Int) (l:List Ro) (s:S) (r:List Q) (v:ag):Option Nat->St->Prop
 | first:Hits nd l s r v none (St.first s)
 | step {o:Option Nat} {a b:St} {i:Nat} {k:Int} (h:Hits nd l s r v o a) (hk:v[i]? = some k) (ho:jW nd l s r v a i k=some b):Hits nd l s r v (some i) b
theorem ae2 (hc:mV nd l s r v) (rest:Nat) (q:Q) :
  (arrives nd l s r v (rowOf nd l s r v (table nd l s r v rest) rest) rest q ≠ -1->(rest=0/\way nd l s.ax (T.weight s r (part v rest)) q.node ≠ -1/\arrives nd l s r v (rowOf nd l s r v (table nd l s r v rest) rest) rest q=s.start + way nd l s.ax (T.weight s r (part v rest)) q.node) \/
   ∃ j k,v[j]? = some k/\lab nd l s r v rest j ≠ -1/\way nd l (req r k).node (T.weight s r (part v rest)) q.node ≠ -1/\arrives nd l s r v (rowOf nd l s r v (table nd l s r v rest) rest) rest q=lab nd l s r v rest j + way nd l (req r k).node (T.weight s r (part v rest)) q.node) /\
  (rest=0->way nd l s.ax (T.weight s r (part v rest)) q.node ≠ -1->arrives nd l s r v (rowOf nd l s r v (table nd l s r v rest) rest) rest q ≠ -1/\arrives nd l s r v (rowOf nd l s r v (table nd l s r v rest) rest) rest q<=s.start + way nd l s.ax (T.weight s r (part v rest)) q.node) /\
  (∀ j k,v[j]? = some k->lab nd l s r v rest j ≠ -1->way nd l (req r k).node (T.weight s r (part v rest)) q.node ≠ -1 ->
   arrives nd l s r v (rowOf nd l s r v (table nd l s r v rest) rest) rest q ≠ -1/\arrives nd l s r v (rowOf nd l s r v (table nd l s r v rest) rest) rest q<=lab nd l s r v rest j + way nd l (req r k).node (T.weight s r (part v rest)) q.node):=by
 have hz:∀ j k,v[j]? = some k->((nodes r v).zip (rowOf nd l s r v (table nd l s r v rest) rest))[j]? = some ((req r k).node,lab nd l s r v rest j):=λj k hk=>by
  rw [List.getElem?_zip_eq_some];refine ⟨by rw [nodes,dG,hk];rfl,?_⟩;have hj:=(zE.1 hk).1;unfold lab;rw [zF (by rw [xW];exact hj),Option.getD_some]
 have hzb:∀ p ∈ (nodes r v).zip (rowOf nd l s r v (table nd l s r v rest) rest),∃ j k,v[j]? = some k/\p=((req r k).node,lab nd l s r v rest j):=λp hp=>by
  obtain ⟨j,hj⟩:=List.mem_iff_getElem?.1 hp;have hjl:j < v.length:=by
   have:=(zE.1 hj).1;rw [List.length_zip,nodes,bu] at this;omega
  have h2:=hz j _ (zF hjl);rw [hj] at h2;injection h2 with h2;exact ⟨j,_,zF hjl,h2⟩
 have hw0:=jY nd l s.ax (T.weight s r (part v rest)) q.node;have hst:=hc.start
 have hf0:(oV nd l s (T.weight s r (part v rest)) q.node rest=-1/\¬ (rest=0/\way nd l s.ax (T.weight s r (part v rest)) q.node ≠ -1)) \/
   (rest=0/\way nd l s.ax (T.weight s r (part v rest)) q.node ≠ -1/\oV nd l s (T.weight s r (part v rest)) q.node rest=s.start + way nd l s.ax (T.weight s r (part v rest)) q.node):=by
  unfold oV;by_cases h0:rest=0
  ·rw [if_pos h0];by_cases hw:way nd l s.ax (T.weight s r (part v rest)) q.node=-1
   ·exact .inl ⟨by rw [UY hw],λh=>h.2 hw⟩
   ·exact .inr ⟨h0,hw,UZ hw (by omega) (.inl rfl)⟩
  ·rw [if_neg h0];exact .inl ⟨rfl,λh=>h0 h.1⟩
 obtain ⟨a1,a2⟩:=agz (nd:=nd) (l:=l) (wt:=T.weight s r (part v rest)) (tn:=q.node) ((nodes r v).zip (rowOf nd l s r v (table nd l s r v rest) rest)) (oV nd l s (T.weight s r (part v rest)) q.node rest) (by rcases hf0 with h | h <;> omega) (λp hp=>by
  obtain ⟨j,k,-,rfl⟩:=hzb p hp;exact (IP hc rest j).1)
 have he:arrives nd l s r v (rowOf nd l s r v (table nd l s r v rest) rest) rest q=firsts nd l (T.weight s r (part v rest)) q.node ((nodes r v).zip (rowOf nd l s r v (table nd l s r v rest) rest)) (oV nd l s (T.weight s r (part v rest)) q.node rest):=rfl;rw [he];refine ⟨λh=>?_,λh0 hw=>?_,λj k hk hl hw=>a2 _ (.inr ⟨_,zD (hz j k hk),hl,hw,rfl⟩)⟩
 ·rcases a1 h with ⟨h1,e⟩ | ⟨p,hp,h1,h2,e⟩
  ·rcases hf0 with ⟨h2,-⟩ | ⟨g1,g2,g3⟩
   ·exact absurd h2 h1
   ·exact .inl ⟨g1,g2,by rw [e,g3]⟩
  ·obtain ⟨j,k,hk,rfl⟩:=hzb p hp;exact .inr ⟨j,k,hk,h1,h2,e⟩
 ·rcases hf0 with ⟨-,h2⟩ | ⟨g1,g2,g3⟩
  ·exact absurd ⟨h0,hw⟩ h2
  ·exact a2 _ (.inl ⟨by omega,g3.symm⟩)
theorem xC (hc:mV nd l s r v) {o:Option Nat} {c:St} (h:Hits nd l s r v o c):c.bits < 2 ^ v.length/\(o=none->c=St.first s)/\∀ i,o=some i->c.bits.testBit i=true/\∃ k,v[i]? = some k/\c.a=(req r k).node:=by
 induction h with
 | first=>exact ⟨Nat.two_pow_pos _,λ_=>rfl,λi e=>(nomatch e)⟩
 | step h hk ho ih =>
  rename_i o a b i k
  have hb:=Jn hc ⟨i,k,hk,ho⟩ ih.1;obtain ⟨h1,-,-,e⟩:=xP ho;refine ⟨hb.1,λe=>(nomatch e),λj e2=>?_⟩;injection e2 with e2;subst e2;refine ⟨?_,k,hk,by rw [e]⟩;have hil:=(zE.1 hk).1;have dP:=hc.len;have h64:a.bits < 64:=dO ih.1 (Nat.pow_le_pow_right (by omega) dP);rw [e];exact afq h64 (by omega) h1
theorem aa8 (hc:mV nd l s r v):∀ (m:Nat),m < 2 ^ v.length->∀ (i:Nat) (k:Int),v[i]? = some k ->
  (∀ c,Hits nd l s r v (some i) c->c.bits=m->lab nd l s r v m i ≠ -1/\lab nd l s r v m i<=c.t)/\(lab nd l s r v m i ≠ -1->∃ c,Hits nd l s r v (some i) c/\c.bits=m/\c.t=lab nd l s r v m i):=by
 intro m;induction m using Nat.strongRecOn with
 | ind m ih =>
 intro hm i k hk;have hil:=(zE.1 hk).1;have dP:=hc.len;have MN:m < 64:=dO hm (Nat.pow_le_pow_right (by omega) dP);obtain ⟨hs0,hs1,hr⟩:=hc.ok k (zD hk);have hst:=hc.start;have hlab:lab nd l s r v m i=if m.testBit i=true then label nd l s r v (((table nd l s r v m)[m - 2 ^ i]?).getD []) (m - 2 ^ i) i (req r k) else -1:=by
  unfold lab;rw [Jg hk,Option.getD_some]
 have hpw:=Nat.two_pow_pos i;cases hbit:m.testBit i
 ·rw [hbit] at hlab;refine ⟨λc h he=>?_,λh=>absurd (by simpa using hlab) h⟩;have:=((xC hc h).2.2 i rfl).1;rw [he,hbit] at this;cases this
 ·rw [hbit,if_pos rfl] at hlab;obtain ⟨hre,hrb⟩:=KH MN (by omega) hbit;obtain ⟨rest,hrest⟩:=zB (m - 2 ^ i);rw [<-hrest] at hlab hre hrb;have hrm:rest < m:=by omega
  rw [yf hrm,Option.getD_some] at hlab;obtain ⟨F,hF⟩:=zB (arrives nd l s r v (rowOf nd l s r v (table nd l s r v rest) rest) rest (req r k));have aaq:lab nd l s r v m i=if F=-1 then -1 else if (begins s r (req r k) (part v m) F).2=true then (begins s r (req r k) (part v m) F).1 + (req r k).service else -1:=by
   rw [hlab,label,<-hF,hre];rfl
  obtain ⟨f1,f2,f3⟩:=ae2 hc rest (req r k);rw [<-hF] at f1 f2 f3;have hF0:F ≠ -1->0<=F:=λh=>by
   rcases f1 h with ⟨-,h2,e⟩ | ⟨j,kj,hj,h1,h2,e⟩
   ·have:=jY nd l s.ax (T.weight s r (part v rest)) (req r k).node;omega
   ·have:=jY nd l (req r kj).node (T.weight s r (part v rest)) (req r k).node;have:=IP hc rest j;omega
  have ihr:=ih rest hrm (by omega);clear hlab;refine ⟨λc h he=>?_,λh=>?_⟩
  ·cases h with
   | step h hk2 ho =>
    rename_i o a k2
    rw [hk] at hk2;injection hk2 with hk2;subst hk2;obtain ⟨h1,h2,h3,e⟩:=xP ho;have hab:a.bits=rest:=by rw [e] at he;have he:a.bits + 2 ^ i=m:=he;omega
    have Td:F ≠ -1/\F<=a.t + way nd l a.a (T.weight s r (part v a.bits)) (req r k).node:=by
     cases o with
     | none =>
      have ha:=(xC hc h).2.1 rfl;subst ha;have hr0:rest=0:=hab.symm;exact f2 hr0 (by rw [<-hab];exact h2) |>.imp id (λh=>by rw [hab];exact h)
     | some j =>
      obtain ⟨-,kj,hkj,haj⟩:=(xC hc h).2.2 j rfl;obtain ⟨g1,g2⟩:=(ihr j kj hkj).1 a h hab;rw [haj,hab] at h2 ⊢;obtain ⟨g3,g4⟩:=f3 j kj hkj g1 h2;exact ⟨g3,by omega⟩
    have ahU:a.bits + 2 ^ i=m:=by omega
    rw [ahU] at h3 e;obtain ⟨b1,b2⟩:=afc (s:=s) (r:=r) (all:=part v m) hr ⟨hs0,hs1⟩ (hF0 Td.1) Td.2 h3;rw [aaq,if_neg Td.1,if_pos b1,e];obtain ⟨-,-,-,y0,y1,-,-⟩:=wW b1;refine ⟨by omega,?_⟩;show _<=_ + _;omega
  ·rw [aaq] at h ⊢;by_cases hF1:F=-1
   ·rw [if_pos hF1] at h;exact absurd rfl h
   rw [if_neg hF1] at h ⊢;by_cases hb:(begins s r (req r k) (part v m) F).2=true;rotate_left
   ·rw [if_neg hb] at h;exact absurd rfl h
   rw [if_pos hb]
   have mk:∀ (o:Option Nat) (a:St),Hits nd l s r v o a->a.bits=rest->way nd l a.a (T.weight s r (part v rest)) (req r k).node ≠ -1->F=a.t + way nd l a.a (T.weight s r (part v rest)) (req r k).node ->
     ∃ c,Hits nd l s r v (some i) c/\c.bits=m/\c.t=(begins s r (req r k) (part v m) F).1 + (req r k).service:=λo a ha hab hw hFe=>by
    refine ⟨_,.step ha hk (b:=⟨m,(req r k).node,(begins s r (req r k) (part v m) F).1 + (req r k).service,a.stops ++ [k],a.times ++ [(begins s r (req r k) (part v m) F).1]⟩) ?_,rfl,rfl⟩;unfold jW;rw [hab,hre,if_neg (by rw [hrb];simp),if_neg hw,<-hFe,if_neg (by rw [hb];simp)]
   rcases f1 hF1 with ⟨h0,h2,e⟩ | ⟨j,kj,hj,h1,h2,e⟩
   ·exact mk none _ .first h0.symm h2 e
   ·obtain ⟨c,c1,c2,c3⟩:=(ihr j kj hj).2 h1;obtain ⟨-,kj2,MM,haj⟩:=(xC hc c1).2.2 j rfl;rw [hj] at MM;injection MM with MM;subst MM;exact mk (some j) c c1 c2 (by rw [haj];exact h2) (by rw [haj,c3];exact e)
end
end K
namespace K
section
variable {nd : Int} {l : List Ro} {s : S} {r : List Q} {v : ag}
theorem TE {o:Option Nat} {c:St} {t:Tr} (h:Hits nd l s r v o c) (h2:Ends nd l s r v c t):Ends nd l s r v (St.first s) t:=by
 induction h with
 | first=>exact h2
 | step h hk ho ih=>exact ih (.step ⟨_,_,hk,ho⟩ h2)
theorem QH {a:St} {t:Tr} (h:Ends nd l s r v a t):∀ o,Hits nd l s r v o a->∃ o' c,Hits nd l s r v o' c/\Home nd l s r v c t:=by
 induction h with
 | home h=>exact λo ho=>⟨o,_,ho,h⟩
 | step h h2 ih =>
  obtain ⟨i,k,hk,ho⟩:=h;exact λo hh=>ih _ (.step hh hk ho)
theorem adf {m:Nat} {row:ag} {k:Nat}:∀ {i:Nat},k < i->m.testBit k=true->(⟨m,k,(row[k]?).getD (-1)⟩:Lb) ∈ gI m row i
 | 0,h,_=>by omega
 | i + 1,h,hb=>by
  rw [gI];by_cases hki:k=i
  ·subst hki;rw [if_pos hb];exact dX.2 (.inr (dB.2 rfl))
  ·exact dX.2 (.inl (adf (by omega) hb))
theorem ad9 {n:Nat} {t:List (List Int)} {x:Lb} {m:Nat}:∀ {M:Nat},m < M->x ∈ gI m ((t[m]?).getD []) n->x ∈ jX n t M
 | 0,h,_=>by omega
 | M + 1,h,hx=>by
  rw [jX];by_cases hmM:m=M
  ·subst hmM;exact dX.2 (.inr hx)
  ·exact dX.2 (.inl (ad9 (by omega) hx))
theorem aiy (h:bF nd l s r v=true) {m i:Nat} (hm:m < 2 ^ v.length) (hi:i < v.length) (hb:m.testBit i=true):(⟨m,i,lab nd l s r v m i⟩:Lb) ∈ bG nd l s r v:=by
 unfold bG;rw [if_pos h];refine ad9 hm ?_;rw [yf hm,Option.getD_some];exact adf hi hb
theorem abE (h:bF nd l s r v=true) {x:Lb} (hx:x ∈ bG nd l s r v):∃ m i:Nat,m < 2 ^ v.length/\i < v.length/\m.testBit i=true/\x=⟨m,i,lab nd l s r v m i⟩:=by
 unfold bG at hx;rw [if_pos h] at hx;obtain ⟨m,hm,hx⟩:=UW hx;rw [yf hm,Option.getD_some] at hx;obtain ⟨i,hi,hb,rfl⟩:=UU hx;exact ⟨m,i,hm,hi,hb,rfl⟩
theorem ajp (h:bF nd l s r v=true) (hv:v ≠ []):(bG nd l s r v).any (opensAt nd l s r v (2 ^ v.length - 1))=true ↔ ∃ t,Ends nd l s r v (St.first s) t:=by
 have hc:=ru h;have hl:1<=v.length:=by cases v with | nil=>exact absurd rfl hv | cons a b=>simp
 have hp:2<=2 ^ v.length:=aN (by decide) (Nat.pow_le_pow_right (n:=2) (by omega) hl);rw [List.any_eq_true];constructor
 ·rintro ⟨x,hx,ho⟩;obtain ⟨m,i,hm,hi,hb,rfl⟩:=abE h hx;simp only [opensAt,opens,dH,beq_iff_eq,bne_iff_ne,gu,kE] at ho;obtain ⟨h1,h2,h3,h4⟩:=ho;have hmE:m=2 ^ v.length - 1:=by omega
  have hk:=zF hi;rw [hk,Option.getD_some] at h3 h4;obtain ⟨c,c1,c2,c3⟩:=(aa8 hc m hm i _ hk).2 h2;obtain ⟨-,k2,hk2,hca⟩:=(xC hc c1).2.2 i rfl;rw [hk] at hk2;injection hk2 with hk2;subst hk2;have hcb:c.bits=2 ^ v.length - 1:=by rw [c2,hmE]
  exact ⟨_,TE c1 (.home ⟨hcb,by rw [hca,hcb];exact h3,by rw [hca,hcb,c3];exact h4,rfl⟩)⟩
 ·rintro ⟨t,ht⟩;obtain ⟨o,c,c1,hH⟩:=QH ht none .first;obtain ⟨g1,g2,g3,-⟩:=hH;cases o with
  | none =>
   have:=(xC hc c1).2.1 rfl;subst this;have g1:0=2 ^ v.length - 1:=g1;omega
  | some i =>
   obtain ⟨hb,k,hk,hca⟩:=(xC hc c1).2.2 i rfl;have hi:=(zE.1 hk).1;have hm:=(xC hc c1).1;obtain ⟨a1,a2⟩:=(aa8 hc c.bits hm i k hk).1 c c1 rfl;refine ⟨_,aiy h hm hi hb,?_⟩;simp only [opensAt,opens,dH,beq_iff_eq,bne_iff_ne,gu,kE];rw [hk,Option.getD_some,<-g1,<-hca];exact ⟨rfl,a1,g2,by omega⟩
theorem aka (h:bF nd l s r v=true) (hv:v ≠ []):blocks nd l s r v (bG nd l s r v)=(best nd l s r v).isNone:=by
 have hl:(v.length == 0)=false:=by cases v with | nil=>exact absurd rfl hv | cons a b=>simp
 have h1:blocks nd l s r v (bG nd l s r v)=!((bG nd l s r v).any (opensAt nd l s r v (2 ^ v.length - 1))):=by
  unfold blocks;rw [h,hl,zH rfl];simp
 rw [h1];have h2:=ajp h hv;have h3:=afh (ru h);cases hb:best nd l s r v with
 | none =>
  have h4:=h3.1 hb;cases ha:(bG nd l s r v).any (opensAt nd l s r v (2 ^ v.length - 1)) with
  | false=>rfl
  | true =>
   obtain ⟨t,ht⟩:=h2.1 ha;exact absurd ht (h4 t)
 | some t =>
  cases ha:(bG nd l s r v).any (opensAt nd l s r v (2 ^ v.length - 1)) with
  | true=>rfl
  | false =>
   have h4:best nd l s r v=none:=h3.2 (λt ht=>by
    have:=h2.2 ⟨t,ht⟩;rw [ha] at this;cases this)
   rw [hb] at h4;cases h4
end
end K
namespace K
theorem Jk {nd:Int} {r:List Q}:∀ (v:ag) (p:Int),l9 nd r p v=true ↔ (∀ k ∈ v,0<=k/\k < (r.length:Int)/\p < k/\(req r k).node < nd)/\v.Pairwise (· < ·)
 | [],p=>by simp [l9]
 | i :: v,p=>by
  simp only [l9,dH,gu,Jk v i,List.pairwise_cons];constructor
  ·rintro ⟨h1,h2,h3,h4,h5,h6⟩;refine ⟨λk hk=>?_,λk hk=>(h5 k hk).2.2.1,h6⟩;rcases dw.1 hk with rfl | hk
   ·exact ⟨h1,h2,h3,h4⟩
   ·obtain ⟨a,b,c,d⟩:=h5 k hk;exact ⟨a,b,by omega,d⟩
  ·rintro ⟨h1,h2,h3⟩;obtain ⟨a,b,c,d⟩:=h1 i (dJ ..);refine ⟨a,b,c,d,λk hk=>?_,h3⟩;obtain ⟨e1,e2,e3,e4⟩:=h1 k (dN _ hk);exact ⟨e1,e2,h2 k hk,e4⟩
theorem ajk {nd:Int} {l:List Ro} {s:S} {r:List Q} {v v':ag} (h:bF nd l s r v=true) (hs:v'.Sublist v):bF nd l s r v'=true:=by
 unfold bF at h ⊢;simp only [dH,beq_iff_eq,gu] at h ⊢;obtain ⟨h1,h2,h3,h4,h5,h6⟩:=h;obtain ⟨g1,g2⟩:=(Jk v (-1)).1 h6;exact ⟨h1,h2,h3,h4,aN hs.length_le h5,(Jk v' (-1)).2 ⟨λk hk=>g1 k (hs.subset hk),g2.sublist hs⟩⟩
theorem abU {nd:Int} {l:List Ro} {s:S} {r:List Q} {v:ag} (m:Nat) (h:bF nd l s r v=true):bF nd l s r (part v m)=true:=ajk h (Vb v m)
end K
theorem T.Vt {r:List Q} {j:Int} {a b:ag} (h:a.Perm b):T.room r j a=T.room r j b:=by
 induction h with
 | nil=>rfl
 | cons x _ ih=>simp [T.room,ih]
 | swap x y l=>simp [T.room];omega
 | trans _ _ ih1 ih2=>exact ih1.trans ih2
theorem T.UO {s:S} {r:List Q} {a b:ag} (h:a.Perm b):T.load s r a=T.load s r b:=by
 have h1:T.isSet (r.length:Int) a=T.isSet (r.length:Int) b:=by
  rw [Bool.eq_iff_iff,T.zU,T.zU];exact ⟨λ⟨g1,g2⟩=>⟨λx hx=>g1 x (h.mem_iff.2 hx),h.nodup_iff.1 g2⟩,λ⟨g1,g2⟩=>⟨λx hx=>g1 x (h.mem_iff.1 hx),h.nodup_iff.2 g2⟩⟩
 unfold T.load;rw [h1]
theorem T.abw {r:List Q} {a b:ag} (h:a.Perm b):T.loads r a=T.loads r b:=by
 unfold T.loads;rw [T.Vt h,T.Vt h,T.Vt h]
theorem T.OM {s:S} {r:List Q} {a b:ag} (h:a.Perm b):T.weight s r a=T.weight s r b:=by
 unfold T.weight;rw [T.UO h,T.abw h]
theorem T.YS {s:S} {r:List Q} {a b:ag} (h:a.Perm b):T.fits s r a=T.fits s r b:=by
 unfold T.fits;rw [T.UO h,T.abw h]
namespace K
theorem NM:∀ (v:ag) (m i:Nat) (k:Int),v[i]? = some k->m.testBit i=false->(part v (m + 2 ^ i)).Perm (part v m ++ [k])
 | [],_,_,_,h,_=>by simp at h
 | x :: r,m,0,k,h,hb=>by
  simp at h;subst h;rw [Nat.testBit_zero] at hb;have h0:m % 2=0:=by simpa using hb
  have h1:(m + 2 ^ 0).testBit 0=true:=by rw [Nat.testBit_zero];simp;omega
  have h2:m.testBit 0=false:=by rw [Nat.testBit_zero];exact hb
  have h3:(m + 2 ^ 0) / 2=m / 2:=by simp;omega
  simp only [part,h1,h2,h3,if_true,Bool.false_eq_true,if_false];exact (List.perm_append_singleton x _).symm
 | x :: r,m,i + 1,k,h,hb=>by
  have hk:r[i]? = some k:=by simpa using h
  have hb2:(m / 2).testBit i=false:=by rw [<-Nat.testBit_succ];exact hb
  have hp:=NM r (m / 2) i k hk hb2;have hpw:2 ^ (i + 1)=2 * 2 ^ i:=by rw [Nat.pow_succ];omega
  have h1:(m + 2 ^ (i + 1)).testBit 0=m.testBit 0:=by rw [Nat.testBit_zero,Nat.testBit_zero,hpw];simp
  have h3:(m + 2 ^ (i + 1)) / 2=m / 2 + 2 ^ i:=by rw [hpw];omega
  simp only [part,h1,h3];split
  ·exact hp.cons x
  ·exact hp
section
variable {nd : Int} {l : List Ro} {s : S} {r : List Q} {v : ag}
theorem H9 {o:Option Nat} {c:St} (h:Hits nd l s r v o c):c.stops.Perm (part v c.bits):=by
 induction h with
 | first =>
  have h0:∀ v:List Int,part v 0=[]:=λv=>by
   induction v with
   | nil=>rfl
   | cons x r ih=>simp [part,ih]
  show ([]:ag).Perm (part v 0);rw [h0]
 | step h hk ho ih =>
  obtain ⟨h1,-,-,e⟩:=xP ho;rw [e];exact (ih.append_right _).trans (NM _ _ _ _ hk h1).symm
end
end K
namespace K
section
variable {nd : Int} {l : List Ro} {s : S} {r : List Q} {v : ag}
theorem abe {c c':St} {i:Nat} {k:Int} (hp:c.stops.Perm (part v c.bits)) (hk:v[i]? = some k) (ho:jW nd l s r v c i k=some c') :
  (aG nd l s r c.stops k c.a c.t).2=0/\c'.a=(req r k).node/\c'.t=(aG nd l s r c.stops k c.a c.t).1 + (req r k).service/\c'.stops=c.stops ++ [k]/\c'.times=c.times ++ [(aG nd l s r c.stops k c.a c.t).1]:=by
 obtain ⟨h1,h2,h3,e⟩:=xP ho;have hw:T.weight s r c.stops=T.weight s r (part v c.bits):=T.OM hp;have hf:T.fits s r (c.stops ++ [k])=T.fits s r (part v (c.bits + 2 ^ i)):=T.YS ((hp.append_right [k]).trans (NM _ _ _ _ hk h1).symm);obtain ⟨hc,hft,he,-,-,hend,-⟩:=wW h3;have g1:¬ s.day < (req r k).aI:=λh=>hc ▸ (.inl h);have g2:¬ (req r k).aP < s.day:=λh=>hc ▸ (.inr (.inl h));have g3:¬ s.end_ < c.t + way nd l c.a (T.weight s r (part v c.bits)) (req r k).node:=λh=>hc ▸ (.inr (.inr (.inl h)));have g4:¬ T.fits s r (part v (c.bits + 2 ^ i))=false:=λh=>hc ▸ (.inr (.inr (.inr h)));have hr:reach nd l s r c.stops c.a c.t (req r k).node=(c.t + way nd l c.a (T.weight s r (part v c.bits)) (req r k).node,0):=by
  unfold reach;rw [hw,if_neg h2,if_neg g3]
 have hl:aG nd l s r c.stops k c.a c.t=((begins s r (req r k) (part v (c.bits + 2 ^ i)) (c.t + way nd l c.a (T.weight s r (part v c.bits)) (req r k).node)).1,0):=by
  unfold aG;rw [if_neg (λh=>h.elim g1 g2),if_neg (by rw [hf];exact g4),hr];dsimp only;rw [if_neg (by simp),if_neg (by rw [hft];simp),if_neg (by rw [he] at hend;omega),he]
 rw [hl,e];exact ⟨rfl,rfl,rfl,rfl,rfl⟩
end
end K
namespace K
section
variable {nd : Int} {l : List Ro} {s : S} {r : List Q} {v : ag}
theorem abk {k:Int}:∀ (o served:ag) (a t:Int),(aB nd l s r served a t o).e=0->(aG nd l s r (served ++ o) k (aB nd l s r served a t o).a (aB nd l s r served a t o).t).2=0 ->
  aB nd l s r served a t (o ++ [k])=⟨(aB nd l s r served a t o).times ++ [(aG nd l s r (served ++ o) k (aB nd l s r served a t o).a (aB nd l s r served a t o).t).1],(req r k).node,(aG nd l s r (served ++ o) k (aB nd l s r served a t o).a (aB nd l s r served a t o).t).1 + (req r k).service,0⟩
 | [],served,a,t,_,h2=>by
  simp only [List.append_nil,aB] at h2;simp [aB,h2]
 | i :: o,served,a,t,h1,h2=>by
  by_cases h:(aG nd l s r served i a t).2=0
  ·have e1:aB nd l s r served a t (i :: o)=⟨(aG nd l s r served i a t).1 :: (aB nd l s r (served ++ [i]) (req r i).node ((aG nd l s r served i a t).1 + (req r i).service) o).times,(aB nd l s r (served ++ [i]) (req r i).node ((aG nd l s r served i a t).1 + (req r i).service) o).a,(aB nd l s r (served ++ [i]) (req r i).node ((aG nd l s r served i a t).1 + (req r i).service) o).t,(aB nd l s r (served ++ [i]) (req r i).node ((aG nd l s r served i a t).1 + (req r i).service) o).e⟩:=by
    conv=>lhs;unfold aB
    rw [if_neg (by rw [h];simp)]
   rw [e1] at h1 h2 ⊢;dsimp only at h1 h2 ⊢;have hsv:served ++ i :: o=(served ++ [i]) ++ o:=by simp
   rw [hsv] at h2 ⊢;have ih:=abk (k:=k) o (served ++ [i]) (req r i).node ((aG nd l s r served i a t).1 + (req r i).service) h1 h2;rw [List.cons_append];conv=>lhs;unfold aB
   rw [if_neg (by rw [h];simp),ih];rfl
  ·have e1:(aB nd l s r served a t (i :: o)).e=(aG nd l s r served i a t).2:=by
    conv=>lhs;unfold aB
    rw [if_pos h]
   rw [e1] at h1;exact absurd h1 h
theorem TF {o:Option Nat} {c:St} (h:Hits nd l s r v o c):aB nd l s r [] s.ax s.start c.stops=⟨c.times,c.a,c.t,0⟩:=by
 induction h with
 | first=>rfl
 | step h hk ho ih =>
  obtain ⟨g1,g2,g3,g4,g5⟩:=abe (H9 h) hk ho;rw [g4,abk _ _ _ _ (by rw [ih]) (by rw [ih];exact g1),ih,g2,g3,g5];rfl
end
end K
namespace K
theorem U9:∀ v:List Int,part v (2 ^ v.length - 1)=v
 | []=>rfl
 | x :: r=>by
  have h1:(2 ^ (r.length + 1) - 1).testBit 0=true:=by rw [Nat.testBit_two_pow_sub_one];simp
  have hpw:2 ^ (r.length + 1)=2 * 2 ^ r.length:=by rw [Nat.pow_succ];omega
  have h2:(2 ^ (r.length + 1) - 1) / 2=2 ^ r.length - 1:=by have:=Nat.two_pow_pos r.length;omega
  simp only [part,dQ,h1,h2,if_true,U9 r]
theorem akG {nd:Int} {l:List Ro} {s:S} {r:List Q} {a b:ag} (h:a.Perm b) (hr:right nd l s r a=true):right nd l s r b=true:=by
 unfold right at hr ⊢;rw [<-T.UO h];simp only [dH,List.all_eq_true] at hr ⊢;exact ⟨hr.1,hr.2.1,hr.2.2.1,λx hx=>hr.2.2.2 x (h.mem_iff.2 hx)⟩
section
variable {nd : Int} {l : List Ro} {s : S} {r : List Q} {v : ag}
theorem aaC (hok:bF nd l s r v=true) {o:Option Nat} {c:St} {t:Tr} (h:Hits nd l s r v o c) (hH:Home nd l s r v c t) :
  t.stops.Perm v/\run nd l s r t.stops=⟨t,0,t.stops.length⟩:=by
 obtain ⟨h1,h2,h3,rfl⟩:=hH;have hp:c.stops.Perm v:=by
  have:=H9 h;rw [h1,U9] at this;exact this
 refine ⟨hp,?_⟩;have hr:right nd l s r c.stops=true:=by
  rw [NG] at hok;simp only [dH] at hok;exact akG hp.symm hok.2
 have hw:T.weight s r c.stops=T.weight s r (part v c.bits):=T.OM (H9 h);have hl:=TF h;have hre:reach nd l s r c.stops c.a c.t s.ax=(c.t + way nd l c.a (T.weight s r (part v c.bits)) s.ax,0):=by
  unfold reach;rw [hw,if_neg h2,if_neg (by omega)]
 show run nd l s r c.stops=_;unfold run;rw [hr,hl];dsimp only;rw [hre,if_neg (by simp),if_neg (by simp),if_neg (by simp)]
end
end K
namespace K
section
variable {nd : Int} {l : List Ro} {s : S} {r : List Q} {v : ag}
theorem ajn {c:St} {i:Nat} {k:Int} (hp:c.stops.Perm (part v c.bits)) (hk:v[i]? = some k) (hb:c.bits.testBit i=false) (hl:(aG nd l s r c.stops k c.a c.t).2=0):∃ c',jW nd l s r v c i k=some c':=by
 obtain ⟨l1,l2,l3,l4,l5,l6,l7⟩:=zW hl;obtain ⟨r1,-,r3,r4⟩:=rX l4;have hw:T.weight s r c.stops=T.weight s r (part v c.bits):=T.OM hp;have hf:T.fits s r (c.stops ++ [k])=T.fits s r (part v (c.bits + 2 ^ i)):=T.YS ((hp.append_right [k]).trans (NM _ _ _ _ hk hb).symm);rw [r3] at l5 l6 r4;rw [hw] at r1 l5 l6 r4;rw [hf] at l3;have hbg:(begins s r (req r k) (part v (c.bits + 2 ^ i)) (c.t + way nd l c.a (T.weight s r (part v c.bits)) (req r k).node)).2=true:=by
  unfold begins;rw [if_neg (by rintro (h | h | h | h) <;> first | omega | (rw [l3] at h;cases h))];simp only [dH,gu];exact ⟨l5,by omega⟩
 unfold jW;rw [if_neg (by rw [hb];simp),if_neg r1,if_neg (by rw [hbg];simp)];exact ⟨_,rfl⟩
end
end K
namespace K
section
variable {nd : Int} {l : List Ro} {s : S} {r : List Q} {v : ag}
theorem abl {k:Int}:∀ (o served:ag) (a t:Int),(aB nd l s r served a t (o ++ [k])).e=0 ->
  (aB nd l s r served a t o).e=0/\(aG nd l s r (served ++ o) k (aB nd l s r served a t o).a (aB nd l s r served a t o).t).2=0
 | [],served,a,t,h=>by
  by_cases h2:(aG nd l s r served k a t).2=0
  ·simp only [List.append_nil,aB];exact ⟨trivial,h2⟩
  ·simp [aB,h2] at h
 | i :: o,served,a,t,h=>by
  rw [List.cons_append] at h;by_cases h2:(aG nd l s r served i a t).2=0
  ·have e1:∀ o',aB nd l s r served a t (i :: o')=⟨(aG nd l s r served i a t).1 :: (aB nd l s r (served ++ [i]) (req r i).node ((aG nd l s r served i a t).1 + (req r i).service) o').times,(aB nd l s r (served ++ [i]) (req r i).node ((aG nd l s r served i a t).1 + (req r i).service) o').a,(aB nd l s r (served ++ [i]) (req r i).node ((aG nd l s r served i a t).1 + (req r i).service) o').t,(aB nd l s r (served ++ [i]) (req r i).node ((aG nd l s r served i a t).1 + (req r i).service) o').e⟩:=λo'=>by
    conv=>lhs;unfold aB
    rw [if_neg (by rw [h2];simp)]
   rw [e1] at h ⊢;dsimp only at h ⊢;have ih:=abl (k:=k) o (served ++ [i]) (req r i).node ((aG nd l s r served i a t).1 + (req r i).service) h;rw [show served ++ i :: o=(served ++ [i]) ++ o by simp];exact ih
  ·have e1:(aB nd l s r served a t (i :: (o ++ [k]))).e=(aG nd l s r served i a t).2:=by
    conv=>lhs;unfold aB
    rw [if_pos h2]
   rw [e1] at h;exact absurd h h2
theorem ach:∀ (v:ag) (m i:Nat) (k:Int),v[i]? = some k->m.testBit i=true->k ∈ part v m
 | [],_,_,_,h,_=>by simp at h
 | x :: r,m,0,k,h,hb=>by
  simp at h;subst h;simp only [part,hb,if_true];exact dJ ..
 | x :: r,m,i + 1,k,h,hb=>by
  have hk:r[i]? = some k:=by simpa using h
  have hb2:(m / 2).testBit i=true:=by rw [<-Nat.testBit_succ];exact hb
  have ih:=ach r (m / 2) i k hk hb2;simp only [part];split
  ·exact dN _ ih
  ·exact ih
theorem aiH:∀ (n:Nat) (o:ag),o.length=n->o.Nodup->(∀ x ∈ o,x ∈ v)->(aB nd l s r [] s.ax s.start o).e=0->∃ q c,Hits nd l s r v q c/\c.stops=o:=by
 intro n;induction n with
 | zero =>
  intro o hn _ _ _;have:o=[]:=List.length_eq_zero_iff.1 hn;subst this;exact ⟨none,_,.first,rfl⟩
 | succ n ih =>
  intro o hn hd hm he;obtain ⟨o',k,rfl⟩:∃ o' k,o=o' ++ [k]:=by
   rcases List.eq_nil_or_concat o with rfl | ⟨o',k,h⟩
   ·simp at hn
   ·exact ⟨o',k,by simpa using h⟩
  obtain ⟨h1,h2⟩:=abl o' [] _ _ he;rw [List.nil_append] at h2;rw [List.nodup_append] at hd;obtain ⟨d1,-,d2⟩:=hd;obtain ⟨q,c,hc,hs⟩:=ih o' (by simpa using hn) d1 (λx hx=>hm x (dX.2 (.inl hx))) h1;obtain ⟨i,hi⟩:=List.mem_iff_getElem?.1 (hm k (dX.2 (.inr (dB.2 rfl))));have hp:=H9 hc;have Et:=TF hc;rw [hs] at Et;rw [Et] at h2;have hb:c.bits.testBit i=false:=by
   cases hb:c.bits.testBit i with
   | false=>rfl
   | true =>
    have h3:=hp.mem_iff.2 (ach v c.bits i k hi hb);rw [hs] at h3;exact absurd rfl (d2 k h3 k (dB.2 rfl))
  obtain ⟨c',ho⟩:=ajn hp hi hb (by rw [hs];exact h2);exact ⟨_,c',.step hc hi ho,by rw [(abe hp hi ho).2.2.2.1,hs]⟩
end
end K
namespace K
theorem acf:∀ (v:ag) (m:Nat),m < 2 ^ v.length->(part v m).length=v.length->m=2 ^ v.length - 1
 | [],m,h,_=>by simp at h;subst h;rfl
 | x :: r,m,h,hl=>by
  have hpw:2 ^ (r.length + 1)=2 * 2 ^ r.length:=by rw [Nat.pow_succ];omega
  rw [dQ,hpw] at h;rw [dQ,hpw];have hp:=Nat.two_pow_pos r.length;cases hb:m.testBit 0 with
  | true =>
   simp only [part,hb,if_true,dQ] at hl;have ih:=acf r (m / 2) (by omega) (by omega);rw [Nat.testBit_zero] at hb;have:m % 2=1:=by simpa using hb
   omega
  | false =>
   simp only [part,hb,Bool.false_eq_true,if_false,dQ] at hl;have:=qM r (m / 2);omega
section
variable {nd : Int} {l : List Ro} {s : S} {r : List Q} {v : ag}
theorem adz (hok:bF nd l s r v=true) {o:ag} (hp:o.Perm v) (he:(run nd l s r o).e=0):∃ q c,Hits nd l s r v q c/\Home nd l s r v c (run nd l s r o).bC/\c.stops=o:=by
 have hc:=ru hok;obtain ⟨h1,h2,h3,h4⟩:=xY he;have hnd:v.Nodup:=by
  rw [NG] at hok;simp only [dH] at hok;exact (T.zU.1 (T.mO (Ad hok.2).2.1).2.1).2
 obtain ⟨q,c,hh,hs⟩:=aiH (nd:=nd) (l:=l) (s:=s) (r:=r) (v:=v) o.length o rfl (hp.nodup_iff.2 hnd) (λx hx=>hp.mem_iff.1 hx) h2;have Et:=TF hh;rw [hs] at Et;have hps:=H9 hh;rw [hs] at hps;have SV:c.bits=2 ^ v.length - 1:=acf v c.bits (xC hc hh).1 (by rw [<-hps.length_eq,hp.length_eq]);have hw:T.weight s r o=T.weight s r (part v c.bits):=T.OM hps;have hb:back nd l s r o=reach nd l s r o c.a c.t s.ax:=by unfold back all;rw [Et]
 rw [hb] at h3;obtain ⟨r1,-,r3,r4⟩:=rX h3;rw [r3] at r4;rw [hw] at r1 r3 r4;refine ⟨q,c,hh,⟨SV,r1,r4,?_⟩,hs⟩;rw [h4,hb,r3,hs];unfold all;rw [Et]
end
end K
namespace K
section
variable {nd : Int} {l : List Ro} {s : S} {r : List Q} {v : ag}
theorem ak9 {o' o:ag} (h:o'.Sublist o):∀ pre:List Int,(run nd l s r (pre ++ o)).e=0->(run nd l s r (pre ++ o')).e=0/\(run nd l s r (pre ++ o')).bC.end_<=(run nd l s r (pre ++ o)).bC.end_:=by
 induction h with
 | slnil=>exact λpre h=>⟨h,Int.le_refl _⟩
 | cons a _ ih =>
  intro pre h;obtain ⟨⟨h1,h2⟩,-⟩:=alQ h;obtain ⟨h3,h4⟩:=ih pre h1;exact ⟨h3,Int.le_trans h4 h2⟩
 | cons_cons a _ ih =>
  intro pre h;have h2:=ih (pre ++ [a]);simp only [jb,List.singleton_append] at h2;exact h2 h
theorem aiK (hok:bF nd l s r v=true) (m:Nat) {t:Tr} (hb:best nd l s r v=some t):∃ u,best nd l s r (part v m)=some u/\u.end_<=t.end_:=by
 have hc:=ru hok;have hok2:=abU m hok;have hE:Ends nd l s r v (St.first s) t:=by
  rcases (KF hc).sound t hb with h | h
  ·cases h
  ·exact h
 obtain ⟨q,c,hh,hH⟩:=QH hE none .first;obtain ⟨hp,hr⟩:=aaC hok hh hH;have hnd:v.Nodup:=by
  have h:=hok;rw [NG] at h;simp only [dH] at h;exact (T.zU.1 (T.mO (Ad h.2).2.1).2.1).2
 have hsub:=Vb v m;have hpf:(t.stops.filter λx=>decide (x ∈ part v m)).Perm (part v m):=by
  have h1:=hp.filter λx=>decide (x ∈ part v m);refine h1.trans ?_;refine (List.perm_ext_iff_of_nodup (hnd.filter _) (hnd.sublist hsub)).2 λx=>?_;rw [List.mem_filter];constructor
  ·rintro ⟨-,h⟩;exact iH h
  ·intro h;exact ⟨hsub.subset h,zH h⟩
 obtain ⟨g1,g2⟩:=ak9 (nd:=nd) (l:=l) (s:=s) (r:=r) (List.filter_sublist (p:=λx=>decide (x ∈ part v m)) (l:=t.stops)) [] (by rw [List.nil_append,hr]);rw [List.nil_append,List.nil_append,hr] at g2;rw [List.nil_append] at g1;obtain ⟨q2,c2,hh2,hH2,-⟩:=adz hok2 hpf g1;obtain ⟨u,hu,hle⟩:=(KF (ru hok2)).least _ (TE hh2 (.home hH2));exact ⟨u,hu,Int.le_trans hle g2⟩
end
end K
namespace K
def z_ (x:Int):List Int->Nat->Int->Int
 | [],_,p=>p
 | y :: l,i,p=>z_ x l (i + 1) (if y=x then (i:Int) else p)
def place (v:ag) (x:Int):Int:=z_ x v 0 (-1)
theorem aco (x:Int):∀ (l:ag) (i:Nat) (p:Int),(z_ x l i p=p/\x ∉ l)\/∃ j:Nat,z_ x l i p=((i + j:Nat):Int)/\l[j]? = some x
 | [],i,p=>.inl ⟨rfl,by simp⟩
 | y :: l,i,p=>by
  rcases aco x l (i + 1) (if y=x then (i:Int) else p) with ⟨h1,h2⟩ | ⟨j,h1,h2⟩
  ·by_cases hy:y=x
   ·refine .inr ⟨0,?_,by simp [hy]⟩;show z_ x l (i + 1) (if y=x then (i:Int) else p)=_;rw [h1,if_pos hy];simp
   ·refine .inl ⟨?_,λh=>?_⟩
    ·show z_ x l (i + 1) (if y=x then (i:Int) else p)=_;rw [h1,if_neg hy]
    ·rcases dw.1 h with h | h
     ·exact hy h.symm
     ·exact h2 h
  ·refine .inr ⟨j + 1,?_,by simpa using h2⟩;show z_ x l (i + 1) (if y=x then (i:Int) else p)=_;rw [h1];congr 1;omega
theorem NP {v:ag} {i:Nat} {x:Int} (hd:v.Nodup) (h:v[i]? = some x):place v x=(i:Int):=by
 rcases aco x v 0 (-1) with ⟨-,h2⟩ | ⟨j,h1,h2⟩
 ·exact absurd (zD h) h2
 ·have hij:j=i:=by
   obtain ⟨hj,ej⟩:=zE.1 h2;obtain ⟨hi,ei⟩:=zE.1 h;have hpw:=List.pairwise_iff_getElem.1 hd;rcases Nat.lt_trichotomy j i with h | h | h
   ·exact absurd (ej.trans ei.symm) (hpw j i hj hi h)
   ·exact h
   ·exact absurd (ei.trans ej.symm) (hpw i j hi hj h)
  show z_ x v 0 (-1)=_;rw [h1,hij];simp
section
variable {nd : Int} {l : List Ro} {s : S} {r : List Q} {v : ag}
theorem ahy (hc:mV nd l s r v) {q:Option Nat} {c:St} (h:Hits nd l s r v q c):c.times.length=c.stops.length/\(c.stops ≠ []->∃ i k y,q=some i/\c.stops[c.stops.length - 1]? = some k/\c.times[c.stops.length - 1]? = some y/\c.t=y + (req r k).service/\v[i]? = some k/\0<=y/\y<=1000000):=by
 induction h with
 | first=>exact ⟨rfl,λh=>absurd rfl h⟩
 | step h hk ho ih =>
  rename_i o a b i k
  obtain ⟨-,-,h3,e⟩:=xP ho;obtain ⟨b1,b2,b3,b4,b5,b6,b7⟩:=wW h3;have hsv:=(hc.ok k (zD hk)).1;rw [e];dsimp only;refine ⟨by simp [ih.1],λ_=>⟨i,k,_,rfl,by simp,by simp [<-ih.1],rfl,hk,?_,?_⟩⟩
  ·omega
  ·omega
end
end K
namespace K
def lX:List Int->List Int->Bool
 | [],_=>true
 | _ :: _,[]=>false
 | a :: x,b :: y=>if a=b then lX x y else decide (a < b)
theorem UL:∀ l:List Int,lX l l=true
 | []=>rfl
 | a :: x=>by simp [lX,UL x]
theorem abo {a b:Int} (h:a < b) (x y:ag):∀ p:List Int,lX (p ++ a :: x) (p ++ b :: y)=true
 | []=>by simp [lX,h];omega
 | c :: p=>by simp [lX,abo h x y p]
section
variable {nd : Int} {l : List Ro} {s : S} {r : List Q} {v : ag}
theorem VI {a b:St} {i:Nat} {k:Int} (h:jW nd l s r v a i k=some b):b.stops=a.stops ++ [k]:=by
 obtain ⟨-,-,-,e⟩:=xP h;rw [e]
theorem YB {a:St} {t:Tr} (h:Ends nd l s r v a t):∃ x,t.stops=a.stops ++ x:=by
 induction h with
 | home h=>obtain ⟨-,-,-,rfl⟩:=h;exact ⟨[],by simp⟩
 | step h h2 ih =>
  obtain ⟨i,k,-,ho⟩:=h;obtain ⟨x,hx⟩:=ih;exact ⟨k :: x,by rw [hx,VI ho];simp⟩
structure First (P:Tr->Prop) (best R:Option Tr):Prop where
 sound:∀ t,R=some t->best=some t\/P t
 keeps:∀ b,best=some b->∃ t,R=some t/\(t=b\/t.end_ < b.end_)
 least:∀ t,P t->∃ t',R=some t'/\t'.end_<=t.end_/\(t'.end_=t.end_->best=some t'\/lX t'.stops t.stops=true)
theorem agQ (hs:v.Pairwise (· < ·)) {rec:St->Option Tr->Option Tr} {st:St} (hrec:∀ st' b,Step nd l s r v st st'->First (Ends nd l s r v st') b (rec st' b)):∀ (rest:ag) (i:Nat) (best:Option Tr),v.drop i=rest ->
  First (λt=>∃ j k st',i<=j/\v[j]? = some k/\jW nd l s r v st j k=some st'/\Ends nd l s r v st' t) best (dU.go rec nd l s r v st best i rest):=by
 intro rest;induction rest with
 | nil =>
  intro i best hd;refine ⟨λt h=>.inl h,λb h=>⟨b,h,.inl rfl⟩,?_⟩;rintro t ⟨j,k,st',hj,hk,-⟩;have h1:=(zE.1 hk).1;have h2:v.length<=i:=by simpa using hd
  omega
 | cons k rest ih =>
  intro i best hd;have hk:v[i]? = some k:=by
   have h1:(v.drop i)[0]? = some k:=by rw [hd];rfl
   simpa using h1
  have hd2:v.drop (i + 1)=rest:=by
   have h1:(v.drop i).drop 1=rest:=by rw [hd];rfl
   simpa [List.drop_drop] using h1
  unfold dU.go;cases ho:jW nd l s r v st i k with
  | none =>
   obtain ⟨a1,a2,a3⟩:=ih (i + 1) best hd2;refine ⟨λt h=>(a1 t h).imp id ?_,a2,?_⟩
   ·rintro ⟨j,k',st',hj,h⟩;exact ⟨j,k',st',by omega,h⟩
   ·rintro t ⟨j,k',st',hj,hk',ho',he⟩;refine a3 t ⟨j,k',st',?_,hk',ho',he⟩;rcases Nat.eq_or_lt_of_le hj with rfl | hj
    ·rw [hk] at hk';injection hk' with hk';subst hk';rw [ho] at ho';cases ho'
    ·omega
  | some st1 =>
   obtain ⟨b1,b2,b3⟩:=hrec st1 best ⟨i,k,hk,ho⟩;obtain ⟨a1,a2,a3⟩:=ih (i + 1) (rec st1 best) hd2;refine ⟨λt h=>?_,λb h=>?_,?_⟩
   ·rcases a1 t h with h | ⟨j,k',st',hj,h⟩
    ·exact (b1 t h).imp id λh=>⟨i,k,st1,zG _,hk,ho,h⟩
    ·exact .inr ⟨j,k',st',by omega,h⟩
   ·obtain ⟨t,h1,h2⟩:=b2 b h;obtain ⟨t',h3,h4⟩:=a2 t h1;refine ⟨t',h3,?_⟩;rcases h4 with rfl | h4
    ·exact h2
    ·rcases h2 with rfl | h2
     ·exact .inr h4
     ·exact .inr (by omega)
   ·rintro t ⟨j,k',st',hj,hk',ho',he⟩;rcases Nat.eq_or_lt_of_le hj with rfl | hj
    ·rw [hk] at hk';injection hk' with hk';subst hk';rw [ho] at ho';injection ho' with ho';subst ho';obtain ⟨t1,h1,h2,h5⟩:=b3 t he;obtain ⟨t',h3,h4⟩:=a2 t1 h1;refine ⟨t',h3,?_,λheq=>?_⟩
     ·rcases h4 with rfl | h4 <;> omega
     ·rcases h4 with rfl | h4
      ·exact h5 heq
      ·omega
    ·obtain ⟨t',h3,h4,h5⟩:=a3 t ⟨j,k',st',by omega,hk',ho',he⟩;refine ⟨t',h3,h4,λheq=>?_⟩;rcases h5 heq with h6 | h6
     ·rcases b1 t' h6 with h7 | h7
      ·exact .inl h7
      ·refine .inr ?_;obtain ⟨x,hx⟩:=YB h7;obtain ⟨y,hy⟩:=YB he;rw [hx,hy,VI ho,VI ho'];have hlt:k < k':=by
        obtain ⟨q1,e1⟩:=zE.1 hk;obtain ⟨q2,e2⟩:=zE.1 hk';rw [<-e1,<-e2];exact (List.pairwise_iff_getElem.1 hs) i j q1 q2 hj
       simpa using abo hlt x y st.stops
     ·exact .inr h6
theorem alu (hc:mV nd l s r v) (hs:v.Pairwise (· < ·)):∀ (f:Nat) (st:St) (best:Option Tr),st.bits < 2 ^ v.length->2 ^ v.length<=st.bits + f->First (Ends nd l s r v st) best (dU nd l s r v f st best):=by
 intro f;induction f with
 | zero=>intro st best h1 h2;omega
 | succ f ih =>
  intro st best hb hf;unfold dU;split
  ·rename_i hl
   obtain ⟨b,rfl,hle⟩:∃ b,best=some b/\b.end_<=st.t:=by
    cases best with
    | none=>simp [late] at hl
    | some b=>exact ⟨b,rfl,by simpa [late] using hl⟩
   exact ⟨λt h=>.inl h,λb' h=>⟨b',h,.inl rfl⟩,λt h=>⟨b,rfl,Int.le_trans hle (YC hc h),λ_=>.inl rfl⟩⟩
  ·split
   ·rename_i hl hfull
    have H7:∀ t,Ends nd l s r v st t->Home nd l s r v st t:=λt h=>by
     cases h with
     | home h=>exact h
     | step h h2=>exact absurd h (YV hfull)
    unfold home;split
    ·rename_i h
     obtain ⟨h1,h2,h3⟩:=h;refine ⟨λt ht=>.inr (.home ⟨hfull,h1,h2,?_⟩),λb hb=>⟨_,rfl,?_⟩,λt ht=>⟨_,rfl,?_⟩⟩
     ·injection ht with ht;exact ht.symm
     ·subst hb;simp only [better,gu] at h3;refine .inr ?_;show _ + _ < _;omega
     ·obtain ⟨-,-,-,rfl⟩:=H7 t ht;exact ⟨Int.le_refl _,λ_=>.inr (UL _)⟩
    ·rename_i h
     refine ⟨λt h=>.inl h,λb h=>⟨b,h,.inl rfl⟩,λt ht=>?_⟩;obtain ⟨-,h1,h2,rfl⟩:=H7 t ht;cases best with
     | none=>exact absurd ⟨h1,h2,rfl⟩ h
     | some b =>
      refine ⟨b,rfl,?_,λ_=>.inl rfl⟩;have h3:¬ better (some b) (st.t + way nd l st.a (T.weight s r (part v st.bits)) s.ax)=true:=λh4=>h ⟨h1,h2,h4⟩;simp only [better,gu] at h3;show b.end_<=_ + _;omega
   ·rename_i hl hfull
    have hg:=agQ (nd:=nd) (l:=l) (s:=s) (r:=r) (v:=v) hs (rec:=dU nd l s r v f) (st:=st) (λst' b h=>ih st' b (Jn hc h hb).1 (by have:=(Jn hc h hb).2;omega)) v 0 best rfl;refine ⟨λt h=>(hg.sound t h).imp id ?_,hg.keeps,λt h=>?_⟩
    ·rintro ⟨j,k,st',-,hk,ho,he⟩;exact .step ⟨j,k,hk,ho⟩ he
    ·cases h with
     | home h=>exact absurd h.1 hfull
     | step h h2 =>
      obtain ⟨j,k,hk,ho⟩:=h;exact hg.least t ⟨j,k,_,aW _,hk,ho,h2⟩
theorem VF (h:bF nd l s r v=true):v.Pairwise (· < ·):=((Jk _ _).1 (jl h).2.2.2.2.2).2
theorem XX (hok:bF nd l s r v=true) {o:ag} (hp:o.Perm v) (he:(run nd l s r o).e=0) :
  ∃ t,best nd l s r v=some t/\t.end_<=(run nd l s r o).bC.end_/\(t.end_=(run nd l s r o).bC.end_->lX t.stops o=true):=by
 have hc:=ru hok;obtain ⟨q,c,hh,hH,hst⟩:=adz hok hp he;obtain ⟨t,h1,h2,h3⟩:=(alu hc (VF hok) _ _ none (Nat.two_pow_pos _) (Nat.le_add_left _ _):First _ none (best nd l s r v)).least _ (TE hh (.home hH));refine ⟨t,h1,h2,λh4=>?_⟩;rcases h3 h4 with h5 | h5
 ·cases h5
 ·obtain ⟨-,-,-,e⟩:=hH;rw [e] at h5;rw [<-hst];exact h5
theorem XY (hok:bF nd l s r v=true) {t:Tr} (h:best nd l s r v=some t):t.stops.Perm v/\run nd l s r t.stops=⟨t,0,t.stops.length⟩/\t.times.length=t.stops.length:=by
 have hE:Ends nd l s r v (St.first s) t:=by
  rcases (KF (ru hok)).sound t h with h | h
  ·cases h
  ·exact h
 obtain ⟨q,c,hh,hH⟩:=QH hE none .first;obtain ⟨h1,h2⟩:=aaC hok hh hH;refine ⟨h1,h2,?_⟩;obtain ⟨-,-,-,e⟩:=hH;rw [e];exact (ahy (ru hok) hh).1
end
end K
namespace K
def oN (nd:Int) (l:List Ro) (s:S) (r:List Q) (o ts:ag) (k:Nat) (a t:Int):Prop :=
 all nd l s r o=⟨ts.take k ++ (aB nd l s r (o.take k) a t (o.drop k)).times,(aB nd l s r (o.take k) a t (o.drop k)).a,(aB nd l s r (o.take k) a t (o.drop k)).t,(aB nd l s r (o.take k) a t (o.drop k)).e⟩/\(0<=a/\a < nd)/\0<=t/\t<=s.end_
structure Next (nd:Int) (l:List Ro) (s:S) (r:List Q) (o ts:ag) (k:Nat) (a t i y:Int):Prop where
 aG:(aG nd l s r (o.take k) i a t).2=0
 time:(K.aG nd l s r (o.take k) i a t).1=y
 next:oN nd l s r o ts (k + 1) (req r i).node (y + (req r i).service)
 way:0<=way nd l a (T.weight s r (o.take k)) (req r i).node/\t + K.way nd l a (T.weight s r (o.take k)) (req r i).node<=y
 fit:H.fit (req r i).l y (req r i).service=(y,true)
 bound:0<=y/\y + (req r i).service<=s.end_/\0<=(req r i).service
 least:∀ b,(H.fit (req r i).l b (req r i).service).2=true->(H.fit (req r i).l b (req r i).service).1=b->t + K.way nd l a (T.weight s r (o.take k)) (req r i).node<=b->y<=b
theorem next {nd:Int} {l:List Ro} {s:S} {r:List Q} {o:ag} (h:(run nd l s r o).e=0) {k:Nat} {a t i y:Int} (hu:oN nd l s r o (run nd l s r o).bC.times k a t) (hi:o[k]? = some i) (hy:(run nd l s r o).bC.times[k]? = some y):Next nd l s r o (run nd l s r o).bC.times k a t i y:=by
 obtain ⟨h1,h2,h3,h4⟩:=xY h;obtain ⟨ts,hts⟩:=zB ((run nd l s r o).bC.times);rw [<-hts] at hu hy ⊢;have hta:ts=(all nd l s r o).times:=by rw [hts,h4]
 obtain ⟨u1,u2,u3,u4⟩:=hu;have TG:(aG nd l s r (o.take k) i a t).2=0:=by
  by_cases e:(aG nd l s r (o.take k) i a t).2=0
  ·exact e
  ·rw [UJ hi e] at u1;rw [u1] at h2;exact absurd h2 e
 have hok:=UK hi TG;rw [hok] at u1;have hkl:(ts.take k).length=k:=by
  have:=(zE.1 hy).1;rw [List.length_take];omega
 have CE:(aG nd l s r (o.take k) i a t).1=y:=by
  have e:ts[k]? = some (aG nd l s r (o.take k) i a t).1:=by
   conv=>lhs;rw [hta,u1]
   simp only;rw [List.getElem?_append_right (by omega),hkl,Nat.sub_self];rfl
  rw [hy] at e;injection e with e;exact e.symm
 have hf:=YM h1 i (zD hi);obtain ⟨-,-,l3,l4,l5,l6,l7⟩:=zW TG;obtain ⟨r1,r2,r3,r4⟩:=rX l4;obtain ⟨f1,f2,f3,f4,f5⟩:=H.oZ l5;rw [l6] at CE l7;rw [CE] at f4 f5 l7;have hfit:H.fit (req r i).l y (req r i).service=(y,true):=by
  have h2':=(H.KR f1 (t:=(reach nd l s r (o.take k) a t (req r i).node).1) (o:=y) (by omega) f3 (by omega)).2 l5 (by rw [CE];omega);rw [CE] at h2';exact Prod.ext h2'.2 h2'.1
 refine ⟨TG,by rw [l6];exact CE,⟨?_,hf.1,by omega,l7⟩,⟨r2,by omega⟩,hfit,⟨by omega,l7,hf.2⟩,?_⟩
 ·rw [u1,take_snoc hy,l6,CE];simp
 ·intro b hb1 hb2 hb3;obtain ⟨g1,g2,g3,g4,g5⟩:=H.oZ hb1;have:=((H.KR f1 (t:=(reach nd l s r (o.take k) a t (req r i).node).1) (o:=b) (by omega) f3 (by omega)).1 hb1).2;rw [CE,hb2] at this;exact this
theorem last {nd:Int} {l:List Ro} {s:S} {r:List Q} {o:ag} (h:(run nd l s r o).e=0) {a t:Int} (hu:oN nd l s r o (run nd l s r o).bC.times o.length a t) :
  0<=way nd l a (T.weight s r o) s.ax/\(run nd l s r o).bC.end_=t + way nd l a (T.weight s r o) s.ax/\(run nd l s r o).bC.end_<=s.end_:=by
 obtain ⟨h1,h2,h3,h4⟩:=xY h;obtain ⟨u1,-⟩:=hu;rw [List.take_length,List.drop_length] at u1;have ea:(all nd l s r o).a=a:=by rw [u1];rfl
 have et:(all nd l s r o).t=t:=by rw [u1];rfl
 unfold back at h3;rw [ea,et] at h3;obtain ⟨r1,r2,r3,r4⟩:=rX h3;have e:(run nd l s r o).bC.end_=(reach nd l s r o a t s.ax).1:=by
  rw [h4];unfold back;rw [ea,et]
 rw [e];exact ⟨r2,r3,r4⟩
end K
end Go.Proofs.YtippdjmpkafifaaGreat
