import Derived.Test.YtippdjmpkafifaaGreatCR16
import Derived.Test.YtippdjmpkafifaaGreatCR15
import Derived.Test.YtippdjmpkafifaaGreatCR9
import Derived.Test.YtippdjmpkafifaaGreatCR7
import Derived.Deep.Light
set_option maxRecDepth 100000
set_option maxHeartbeats 64000000
namespace Go.Proofs.YtippdjmpkafifaaGreat
open Go.RowKit
def Bi (b:Bool):List Value:=[.bool b]
def Bools (w:World) (A:aj) (n:Nat) (l:List Bool):Prop:=aX Bi 1 w A n l
structure BB where
 A:Option Addr
 n:Nat
 c:Nat
 ts:List TV
 O:Option Addr
 m:Nat
 k:Nat
 ok:List Bool
def BB.cells (y:BB):List Value:=[.slice y.A y.n y.c,.slice y.O y.m y.k]
def BB.Has (w:World) (y:BB):Prop:=ja w y.A y.n y.ts/\Bools w y.O y.m y.ok
def wQ (y:BB) (g:Nat):Prop:=UT y.A y.n y.ts g\/Ft y.O y.m g
theorem BB.Has.below {w w':World} {y:BB} (h:y.Has w) (hb:af w w'):y.Has w':=⟨h.1.below hb,aX.below h.2 hb⟩
theorem BB.Has.sm {w w':World} {y:BB} (h:y.Has w) (hs:Sm w w' (wQ y)):y.Has w':=⟨h.1.sm (hs.mono λ_ e=>.inl e),h.2.1,h.2.2.sm (hs.mono λ_ e=>.inr e)⟩
theorem BB.Has.lt {w:World} {y:BB} (h:y.Has w) {g:Nat} (hg:wQ y g):g < w.heap.size:=by
 rcases hg with e | e
 ·exact h.1.Bj e
 ·exact h.2.2.Bj (by decide) e
theorem Ints.Ou {w w':World} {A:aj} {n:Nat} {l:ag} (h:Ints w A n l) (hs:Sm w w' (Ft A n)):Ints w' A n l:=⟨h.1,h.2.sm hs⟩
theorem Oj {w w':World} {base:Nat} {e:TypeId} {size n:Nat} {v:Value} {xs:List Value} (h:w.ownsRow base e size v n xs) (hs:∀ g,v.ownBlock=some g->w'.heap[g]? = w.heap[g]?):w'.ownsRow base e size v n xs:=by
 obtain ⟨hl,h1 | ⟨g,cap,cur,hv,hbg,hh,r⟩⟩:=h
 ·exact ⟨hl,.inl h1⟩
 ·exact ⟨hl,.inr ⟨g,cap,cur,hv,hbg,(hs g (by rw [hv];rfl)).trans hh,r⟩⟩
structure uG (w:World) (B:Nat) (v:Value) (L:List BB):Prop where
 row:w.ownsRow B 111 2 v L.length (L.flatMap BB.cells)
 has:∀ y ∈ L,y.Has w
 off:∀ y ∈ L,∀ g,wQ y g->B<=g/\v.ownBlock ≠ some g
theorem uG.nil (w:World) (B:Nat):uG w B (.slice none 0 0) []:=⟨kF _ _ _ _,λy h=>(by cases h),λy h=>(by cases h)⟩
theorem uG.below {w w':World} {B:Nat} {v:Value} {L:List BB} (h:uG w B v L) (hb:af w w'):uG w' B v L:=⟨own_below h.row hb,λy hy=>(h.has y hy).below hb,h.off⟩
theorem uG.app {w w':World} {B:Nat} {v v':Value} {L:List BB} (h:uG w B v L) {y:BB} (hy:y.Has w) (ho:∀ g,wQ y g->B<=g/\v.ownBlock ≠ some g) (hg:w.grownBy w' v.ownBlock) (ha:v'.ownBlock=v.ownBlock\/v'.ownBlock=some w.heap.size) (hr:w'.ownsRow B 111 2 v' (L.length + 1) ((L ++ [y]).flatMap BB.cells)):uG w' B v' (L ++ [y]):=by
 have key:∀ z:BB,z.Has w->(∀ g,wQ z g->B<=g/\v.ownBlock ≠ some g)->z.Has w'/\∀ g,wQ z g->B<=g/\v'.ownBlock ≠ some g:=λz hz uq =>
  ⟨hz.sm (Sm.grown hg λg e=>(uq g e).2),λg e=>⟨(uq g e).1,λe2=>by
   rcases ha with e3 | e3
   ·exact (uq g e).2 (e3.symm.trans e2)
   ·rw [e3] at e2;injection e2 with e2;have:=hz.lt e;omega⟩⟩
 refine ⟨by rw [cZ];exact hr,λz hz=>?_,λz hz=>?_⟩
 ·rcases dX.1 hz with hz | hz
  ·exact (key z (h.has z hz) (h.off z hz)).1
  ·rw [dB.1 hz];exact (key y hy ho).1
 ·rcases dX.1 hz with hz | hz
  ·exact (key z (h.has z hz) (h.off z hz)).2
  ·rw [dB.1 hz];exact (key y hy ho).2
structure oJ (w:World) (B gb:Nat) (vT vO:Value) (ts:List TV) (ok:List Bool):Prop where
 blk:w.heap[gb]? = some (.cells #[vT,vO] 111 (0,0))
 hB:B<=gb
 rowT:w.ownsRow B 80 4 vT ts.length (ts.flatMap TV.cells)
 Dp:w.ownsRow B 4 1 vO ok.length (ok.flatMap Bi)
 ne:∀ g,vT.ownBlock=some g->vO.ownBlock ≠ some g
 nT:vT.ownBlock ≠ some gb
 nO:vO.ownBlock ≠ some gb
 ints:∀ y ∈ ts,Ints w y.A y.n y.t.stops/\Ints w y.A' y.n' y.t.times
 off:∀ y ∈ ts,∀ g,Ft y.A y.n g\/Ft y.A' y.n' g->B<=g/\vT.ownBlock ≠ some g/\vO.ownBlock ≠ some g/\g ≠ gb
theorem oJ.below {w w':World} {B gb:Nat} {vT vO:Value} {ts:List TV} {ok:List Bool} (h:oJ w B gb vT vO ts ok) (hb:af w w'):oJ w' B gb vT vO ts ok :=
 ⟨au hb h.blk,h.hB,own_below h.rowT hb,own_below h.Dp hb,h.ne,h.nT,h.nO,λy hy=>⟨(h.ints y hy).1.below hb,(h.ints y hy).2.below hb⟩,h.off⟩
theorem EM {w:World} {A:aj} {n:Nat} {l:ag} (h:Ints w A n l) {g:Nat} (e:Ft A n g):g < w.heap.size:=h.2.Bj (by decide) e
theorem oJ.ae0 {w w':World} {B gb:Nat} {vT vO sF:Value} {ts:List TV} {ok:List Bool} (h:oJ w B gb vT vO ts ok) {y:TV} (hy:Ints w y.A y.n y.t.stops/\Ints w y.A' y.n' y.t.times)
  (ho:∀ g,Ft y.A y.n g\/Ft y.A' y.n' g->B<=g/\vT.ownBlock ≠ some g/\vO.ownBlock ≠ some g/\g ≠ gb) (hg:w.grownBy w' vT.ownBlock) (ha:sF.ownBlock=vT.ownBlock\/sF.ownBlock=some w.heap.size)
  (hr:w'.ownsRow B 80 4 sF (ts.length + 1) ((ts ++ [y]).flatMap TV.cells)):oJ (w'.setCell ⟨gb,0,none⟩ sF) B gb sF vO (ts ++ [y]) ok:=by
 have hgl:=lt_of_block h.blk;have K:∀ g,g < w.heap.size->vT.ownBlock ≠ some g->g ≠ gb->(w'.setCell ⟨gb,0,none⟩ sF).heap[g]? = w.heap[g]?:=λg hl h1 h2=>(iG w' ⟨gb,0,none⟩ sF g h2).trans (hg.block g hl λe=>h1 e.symm);have hbk:w'.heap[gb]? = some (.cells #[vT,vO] 111 (0,0)):=(hg.block gb hgl λe=>h.nT e.symm).trans h.blk;have hv:∀ g,sF.ownBlock=some g->vT.ownBlock=some g\/g=w.heap.size:=λg e=>ha.elim (λe3=>.inl (e3.symm.trans e)) (λe3=>.inr (by rw [e3] at e;injection e with e;exact e.symm));have hin:=gz h.Dp
 have key:∀ z:TV,(Ints w z.A z.n z.t.stops/\Ints w z.A' z.n' z.t.times)->(∀ g,Ft z.A z.n g\/Ft z.A' z.n' g->B<=g/\vT.ownBlock ≠ some g/\vO.ownBlock ≠ some g/\g ≠ gb) ->
   (Ints (w'.setCell ⟨gb,0,none⟩ sF) z.A z.n z.t.stops/\Ints (w'.setCell ⟨gb,0,none⟩ sF) z.A' z.n' z.t.times)/\∀ g,Ft z.A z.n g\/Ft z.A' z.n' g->B<=g/\sF.ownBlock ≠ some g/\vO.ownBlock ≠ some g/\g ≠ gb:=λz hz uq=>by
  refine ⟨⟨hz.1.Ou λg e hl=>K g hl (uq g (.inl e)).2.1 (uq g (.inl e)).2.2.2,hz.2.Ou λg e hl=>K g hl (uq g (.inr e)).2.1 (uq g (.inr e)).2.2.2⟩,λg e=>⟨(uq g e).1,λe2=>?_,(uq g e).2.2⟩⟩;rcases hv g e2 with e3 | e3
  ·exact (uq g e).2.1 e3
  ·have:g < w.heap.size:=e.elim (λe=>EM hz.1 e) (λe=>EM hz.2 e);omega
 refine ⟨di hbk 0 _,h.hB,?_,Oj h.Dp λg e=>K g (hin g e).2 (λe2=>h.ne g e2 e) (λe2=>h.nO (by rw [<-e2];exact e)),λg e e2=>?_,λe=>?_,h.nO,λz hz=>?_,λz hz=>?_⟩
 ·rw [cZ];refine Oj hr λg e=>iG w' ⟨gb,0,none⟩ sF g λe2=>?_;rcases hv g e with e3 | e3
  ·exact h.nT (by rw [e3,e2])
  ·rw [e2] at e3;dsimp only at e3;omega
 ·rcases hv g e with e3 | e3
  ·exact h.ne g e3 e2
  ·have:=(hin g e2).2;omega
 ·rcases hv gb e with e3 | e3
  ·exact h.nT e3
  ·omega
 ·rcases dX.1 hz with hz | hz
  ·exact (key z (h.ints z hz) (h.off z hz)).1
  ·rw [dB.1 hz];exact (key y hy ho).1
 ·rcases dX.1 hz with hz | hz
  ·exact (key z (h.ints z hz) (h.off z hz)).2
  ·rw [dB.1 hz];exact (key y hy ho).2
theorem oJ.aeZ {w w':World} {B gb:Nat} {vT vO yh:Value} {ts:List TV} {ok:List Bool} (h:oJ w B gb vT vO ts ok) {b:Bool} (hg:w.grownBy w' vO.ownBlock) (ha:yh.ownBlock=vO.ownBlock\/yh.ownBlock=some w.heap.size)
  (hr:w'.ownsRow B 4 1 yh (ok.length + 1) (ok.flatMap Bi ++ Bi b)):oJ (w'.setCell ⟨gb,1,none⟩ yh) B gb vT yh ts (ok ++ [b]):=by
 have hgl:=lt_of_block h.blk;have K:∀ g,g < w.heap.size->vO.ownBlock ≠ some g->g ≠ gb->(w'.setCell ⟨gb,1,none⟩ yh).heap[g]? = w.heap[g]?:=λg hl h1 h2=>(iG w' ⟨gb,1,none⟩ yh g h2).trans (hg.block g hl λe=>h1 e.symm);have hbk:w'.heap[gb]? = some (.cells #[vT,vO] 111 (0,0)):=(hg.block gb hgl λe=>h.nO e.symm).trans h.blk;have hv:∀ g,yh.ownBlock=some g->vO.ownBlock=some g\/g=w.heap.size:=λg e=>ha.elim (λe3=>.inl (e3.symm.trans e)) (λe3=>.inr (by rw [e3] at e;injection e with e;exact e.symm));have hin:=gz h.rowT;refine ⟨di hbk 1 _,h.hB,Oj h.rowT λg e=>K g (hin g e).2 (h.ne g e) (λe2=>h.nT (by rw [<-e2];exact e)),?_,λg e e2=>?_,h.nT,λe=>?_,λz hz=>⟨?_,?_⟩,λz hz g e=>?_⟩
 ·rw [cZ,List.flatMap_append,List.flatMap_singleton];refine Oj hr λg e=>iG w' ⟨gb,1,none⟩ yh g λe2=>?_;rcases hv g e with e3 | e3
  ·exact h.nO (by rw [e3,e2])
  ·rw [e2] at e3;dsimp only at e3;omega
 ·rcases hv g e2 with e3 | e3
  ·exact h.ne g e e3
  ·have:=(hin g e).2;omega
 ·rcases hv gb e with e3 | e3
  ·exact h.nO e3
  ·omega
 ·exact (h.ints z hz).1.Ou λg e hl=>K g hl (h.off z hz g (.inl e)).2.2.1 (h.off z hz g (.inl e)).2.2.2
 ·exact (h.ints z hz).2.Ou λg e hl=>K g hl (h.off z hz g (.inr e)).2.2.1 (h.off z hz g (.inr e)).2.2.2
 ·obtain ⟨h1,h2,h3,h4⟩:=h.off z hz g e;refine ⟨h1,h2,λe2=>?_,h4⟩;rcases hv g e2 with e3 | e3
  ·exact h3 e3
  ·have:g < w.heap.size:=e.elim (λe=>EM (h.ints z hz).1 e) (λe=>EM (h.ints z hz).2 e);omega
theorem oJ.done {w:World} {B gb:Nat} {vT vO:Value} {ts:List TV} {ok:List Bool} (h:oJ w B gb vT vO ts ok):∃ TA tc OA oc,vT=.slice TA ts.length tc/\vO=.slice OA ok.length oc/\BB.Has w ⟨TA,ts.length,tc,ts,OA,ok.length,oc,ok⟩/\∀ g,wQ ⟨TA,ts.length,tc,ts,OA,ok.length,oc,ok⟩ g->B<=g:=by
 obtain ⟨TA,tc,e1,hT,fT⟩:=fP h.rowT;obtain ⟨OA,oc,e2,hO,fO⟩:=fP h.Dp;refine ⟨TA,tc,OA,oc,e1,e2,⟨⟨⟨rfl,hT⟩,h.ints⟩,rfl,hO⟩,?_⟩;rintro g ((⟨h0,ad,e,rfl⟩ | ⟨y,hy,e⟩) | ⟨h0,ad,e,rfl⟩)
 ·exact (fT _ (by rw [e1];dsimp only at e;rw [e];rfl)).1
 ·exact (h.off y hy g e).1
 ·exact (fO _ (by rw [e2];dsimp only at e;rw [e];rfl)).1
def qg (nd:Int) (l:List Ro) (s:S) (r:List Q) (k N:Nat) (ts:List TV) (ok:List Bool):Prop :=
 ts.map TV.pr=(List.range N).map (λi=>((if i=0 then 0 else (k:Int)),(K.oO nd l s r i).1))/\ok=(List.range N).map λi=>(K.oO nd l s r i).2 == 0
theorem qg.snoc {nd:Int} {l:List Ro} {s:S} {r:List Q} {k N:Nat} {ts:List TV} {ok:List Bool} (h:qg nd l s r k N ts ok) (h0:N ≠ 0) {y:TV} {b:Bool} (hy:y.pr=((k:Int),(K.oO nd l s r N).1)) (hb:b=((K.oO nd l s r N).2 == 0)):qg nd l s r k (N + 1) (ts ++ [y]) (ok ++ [b]):=by
 constructor
 ·rw [eG,h.1,List.range_succ,eG,List.map_singleton,List.map_singleton,if_neg h0,hy]
 ·rw [h.2,List.range_succ,eG,List.map_singleton,hb]
theorem qg.one (nd:Int) (l:List Ro) (s:S) (r:List Q) (k:Nat):qg nd l s r k 1 [⟨0,none,0,0,none,0,0,K.Tr.zero⟩] [true]:=⟨rfl,rfl⟩
theorem qg.len {nd:Int} {l:List Ro} {s:S} {r:List Q} {k N:Nat} {ts:List TV} {ok:List Bool} (h:qg nd l s r k N ts ok):ts.length=N/\ok.length=N:=by
 have h1:=congrArg List.length h.1;have h2:=congrArg List.length h.2;rw [bu,bu,List.length_range] at h1;rw [bu,List.length_range] at h2;exact ⟨h1,h2⟩
def Fb (x:Cs) (N:Nat) (L:List BB):Prop:=∀ (k:Nat) (y:BB) (s:S),L[k]? = some y->x.ss[k]? = some s->qg x.nd x.l s x.r k N y.ts y.ok
theorem Fb.snoc {x:Cs} {N:Nat} {L:List BB} (h:Fb x N L) {y:BB} {s:S} (hs:x.ss[L.length]? = some s) (hy:qg x.nd x.l s x.r L.length N y.ts y.ok):Fb x N (L ++ [y]):=λk z s' hz hs'=>by
 by_cases hk:k < L.length
 ·rw [nJ hk] at hz;exact h k z s' hz hs'
 ·rw [List.getElem?_append_right (by omega)] at hz;have hk2:k=L.length:=by
   have:=(zE.1 hz).1;rw [List.length_singleton] at this;omega
  subst hk2;rw [Nat.sub_self] at hz;injection hz with hz;rw [hs] at hs';injection hs' with hs';subst hz hs';exact hy
def aeI (x:Cs) (w w':World) (e:Ending):Prop :=
 (∃ A n c L,e=.returned (.slice A n c)/\aX BB.cells 2 w' A n L/\n=x.sn/\(∀ y ∈ L,y.Has w')/\(∀ y ∈ L,∀ g,wQ y g->w.heap.size<=g)/\Fb x (2 ^ x.r.length) L)/\af w w'
namespace K
def mP (l:ag):Nat->Option Nat
 | 0=>none
 | j + 1=>if (l[j + 1]?).getD 0 < (l[j]?).getD 0 then mP l j else some j
def mQ (l:ag) (x:Int):Nat->Nat
 | 0=>0
 | k + 1=>if (l[k]?).getD 0 < x then mQ l x k else k
def turned (l:ag) (i k:Nat):List Int :=
 (((l.set i ((l[k]?).getD 0)).set k ((l[i]?).getD 0)).take (i + 1)) ++ (((l.set i ((l[k]?).getD 0)).set k ((l[i]?).getD 0)).drop (i + 1)).reverse
def lY (l:ag):Option (List Int):=match mP l (l.length - 1) with
 | none=>none
 | some i=>some (turned l i (mQ l ((l[i]?).getD 0) l.length))
def orders:Nat->List Int->List (List Int)
 | 0,_=>[]
 | f + 1,l=>l :: match lY l with | none=>[] | some l'=>orders f l'
def places (n:Nat):List Int:=(List.range n).map λ(i:Nat)=>(i:Int)
def grows:List (List Int)->Bool
 | []=>true
 | a :: l=>l.all (λb=>lX a b) && grows l
theorem ajy:∀ n:Fin 5,grows (orders 25 (places n.val))=true:=by decide +kernel
theorem ajz:∀ n:Fin 5,(orders 25 (places n.val)).length<=24:=by decide +kernel
theorem ajs:∀ a:Fin 1,[(a.val:Int)] ∈ orders 25 (places 1):=by decide +kernel
theorem ajt:∀ a b:Fin 2,[a,b].Nodup->[(a.val:Int),b.val] ∈ orders 25 (places 2):=by decide +kernel
theorem aju:∀ a b c:Fin 3,[a,b,c].Nodup->[(a.val:Int),b.val,c.val] ∈ orders 25 (places 3):=by decide +kernel
theorem ajv:∀ a b c d:Fin 4,[a,b,c,d].Nodup->[(a.val:Int),b.val,c.val,d.val] ∈ orders 25 (places 4):=by decide +kernel
theorem U2:∀ n:Fin 5,∀ o ∈ orders 25 (places n.val),o.length=n.val/\o.Nodup/\∀ x ∈ o,0<=x/\x < n.val:=by decide +kernel
theorem abI {l:ag}:∀ {j i:Nat},mP l j=some i->i < j
 | 0,i,h=>by cases h
 | j + 1,i,h=>by
  rw [mP] at h;split at h
  ·have:=abI h;omega
  ·injection h with h;omega
theorem abK {l:ag} {x:Int}:∀ {k:Nat},0 < k->mQ l x k < k
 | 0,h=>by omega
 | k + 1,_=>by
  rw [mQ];split
  ·cases k with
   | zero=>simp [mQ]
   | succ k=>have:=abK (l:=l) (x:=x) (k:=k + 1) (by omega);omega
  ·omega
section
variable {f : Int -> Int} {l : ag}
theorem EO {i:Nat} (h:i < l.length):(((l.map f)[i]?).getD 0)=f ((l[i]?).getD 0):=by
 rw [dG,zF h];rfl
theorem at_mem {i:Nat} (h:i < l.length):(l[i]?).getD 0 ∈ l:=by
 rw [zF h];exact List.getElem_mem h
def jq (f:Int->Int) (l:ag):Prop:=∀ a ∈ l,∀ b ∈ l,(f a < f b ↔ a < b)
theorem abJ (hf:jq f l):∀ j,(j=0\/j < l.length)->mP (l.map f) j=mP l j
 | 0,_=>rfl
 | j + 1,h=>by
  have h1:j + 1 < l.length:=by omega
  rw [mP,mP,EO h1,EO (show j < l.length by omega),abJ hf j (by omega)];simp only [hf _ (at_mem h1) _ (at_mem (show j < l.length by omega))]
theorem abL (hf:jq f l) {x:Int} (hx:x ∈ l):∀ k,k<=l.length->mQ (l.map f) (f x) k=mQ l x k
 | 0,_=>rfl
 | k + 1,h=>by
  rw [mQ,mQ,EO (show k < l.length by omega),abL hf hx k (by omega)];simp only [hf _ (at_mem (show k < l.length by omega)) _ hx]
theorem amj {i k:Nat} (hi:i < l.length) (hk:k < l.length):turned (l.map f) i k=(turned l i k).map f:=by
 unfold turned;rw [EO hi,EO hk];simp only [eG,List.map_take,List.map_reverse,List.map_drop,List.map_set]
theorem amk {i k:Nat} (hi:i < l.length) (hk:k < l.length):∀ x ∈ turned l i k,x ∈ l:=by
 intro x hx;have h1:x ∈ (l.set i ((l[k]?).getD 0)).set k ((l[i]?).getD 0):=by
  unfold turned at hx;rcases dX.1 hx with h | h
  ·exact List.mem_of_mem_take h
  ·exact List.mem_of_mem_drop (List.mem_reverse.1 h)
 rcases List.mem_or_eq_of_mem_set h1 with h | h
 ·rcases List.mem_or_eq_of_mem_set h with h | h
  ·exact h
  ·rw [h];exact at_mem hk
 ·rw [h];exact at_mem hi
theorem ai9 (hf:jq f l):lY (l.map f)=(lY l).map (List.map f)/\∀ l',lY l=some l'->∀ x ∈ l',x ∈ l:=by
 unfold lY;rw [bu,abJ hf _ (by omega)];cases h:mP l (l.length - 1) with
 | none=>exact ⟨rfl,λ_ h=>by cases h⟩
 | some i =>
  have hi:i < l.length:=by have:=abI h;omega
  have hk:mQ l ((l[i]?).getD 0) l.length < l.length:=abK (by omega);dsimp only;rw [EO hi,abL hf (at_mem hi) _ (zG _),amj hi hk];refine ⟨rfl,λl' h=>?_⟩;injection h with h;subst h;exact amk hi hk
end
theorem abY {f:Int->Int}:∀ (n:Nat) (l:ag),jq f l->orders n (l.map f)=(orders n l).map (List.map f)
 | 0,_,_=>rfl
 | n + 1,l,hf=>by
  obtain ⟨h1,h2⟩:=ai9 hf;rw [orders,orders,h1];cases h:lY l with
  | none=>rfl
  | some l' =>
   have hf':jq f l':=λa ha b hb=>hf a (h2 l' h a ha) b (h2 l' h b hb);simp only [Option.map_some,List.map_cons];rw [abY n l' hf']
theorem aj0 (v:ag):(places v.length).map (λi=>(v[i.toNat]?).getD 0)=v:=by
 apply List.ext_getElem?;intro k;unfold places;rw [List.map_map,dG];by_cases h:k < v.length
 ·rw [List.getElem?_range h];simp [h]
 ·rw [lK (by simpa using h),lK (by omega)];rfl
end K
namespace K
theorem ajW {o v:ag} (h1:o.Nodup) (h2:v.Nodup) (h3:∀ x ∈ o,x ∈ v) (h4:o.length=v.length):o.Perm v:=by
 have h5:(v.filter λx=>decide (x ∈ o)).Perm o:=by
  refine (List.perm_ext_iff_of_nodup (h2.filter _) h1).2 λx=>?_;rw [List.mem_filter];exact ⟨λh=>iH h.2,λh=>⟨h3 x h,zH h⟩⟩
 have h6:v.filter (λx=>decide (x ∈ o))=v:=List.filter_eq_self.2 (List.length_filter_eq_length_iff.1 (by rw [h5.length_eq,h4]));rw [h6] at h5;exact h5.symm
theorem ajr {n:Nat} (hn:n<=4) {σ:ag} (hl:σ.length=n) (hd:σ.Nodup) (hr:∀ x ∈ σ,0<=x/\x < (n:Int)):σ ∈ orders 25 (places n):=by
 have hz:∀ x:Int,0<=x->x < (n:Int)->∃ a:Fin n,(a.val:Int)=x:=λx h0 h1=>⟨⟨x.toNat,by omega⟩,by show ((x.toNat:Nat):Int)=x;omega⟩;match n,hn,σ,hl with
 | 0,_,[],_=>decide
 | 1,_,[x],_ =>
  obtain ⟨a,rfl⟩:=hz x (hr x (by simp)).1 (hr x (by simp)).2;exact ajs a
 | 2,_,[x,y],_ =>
  obtain ⟨a,rfl⟩:=hz x (hr x (by simp)).1 (hr x (by simp)).2;obtain ⟨b,rfl⟩:=hz y (hr y (by simp)).1 (hr y (by simp)).2;refine ajt a b ?_;simp only [List.nodup_cons,dw,List.not_mem_nil,or_false,not_false_eq_true,List.nodup_nil,and_true] at hd ⊢;exact λh=>hd (by rw [h])
 | 3,_,[x,y,z],_ =>
  obtain ⟨a,rfl⟩:=hz x (hr x (by simp)).1 (hr x (by simp)).2;obtain ⟨b,rfl⟩:=hz y (hr y (by simp)).1 (hr y (by simp)).2;obtain ⟨c,rfl⟩:=hz z (hr z (by simp)).1 (hr z (by simp)).2;refine aju a b c ?_;simp only [List.nodup_cons,dw,List.not_mem_nil,or_false,not_or,not_false_eq_true,List.nodup_nil,and_true] at hd ⊢;exact ⟨⟨λh=>hd.1.1 (by rw [h]),λh=>hd.1.2 (by rw [h])⟩,λh=>hd.2 (by rw [h])⟩
 | 4,_,[x,y,z,u],_ =>
  obtain ⟨a,rfl⟩:=hz x (hr x (by simp)).1 (hr x (by simp)).2;obtain ⟨b,rfl⟩:=hz y (hr y (by simp)).1 (hr y (by simp)).2;obtain ⟨c,rfl⟩:=hz z (hr z (by simp)).1 (hr z (by simp)).2;obtain ⟨d,rfl⟩:=hz u (hr u (by simp)).1 (hr u (by simp)).2;refine ajv a b c d ?_;simp only [List.nodup_cons,dw,List.not_mem_nil,or_false,not_or,not_false_eq_true,List.nodup_nil,and_true] at hd ⊢;exact ⟨⟨λh=>hd.1.1 (by rw [h]),λh=>hd.1.2.1 (by rw [h]),λh=>hd.1.2.2 (by rw [h])⟩,⟨λh=>hd.2.1.1 (by rw [h]),λh=>hd.2.1.2 (by rw [h])⟩,λh=>hd.2.2 (by rw [h])⟩
theorem YZ:∀ {l:List (List Int)},grows l=true->l.Pairwise λa b=>lX a b=true
 | [],_=>.nil
 | a :: l,h=>by
  simp only [grows,dH,List.all_eq_true] at h;exact .cons h.1 (YZ h.2)
theorem abp {f:Int->Int}:∀ {a b:ag},(∀ x ∈ a,∀ y ∈ b,(f x < f y ↔ x < y)/\(f x=f y ↔ x=y))->lX (a.map f) (b.map f)=lX a b
 | [],_,_=>rfl
 | _ :: _,[],_=>rfl
 | x :: a,y :: b,h=>by
  obtain ⟨h1,h2⟩:=h x (dJ ..) y (dJ ..);simp only [List.map_cons,lX,h1,h2];rw [abp λp hp q hq=>h p (dN _ hp) q (dN _ hq)]
theorem abn:∀ {a b:ag},a.length=b.length->lX a b=true->lX b a=true->a=b
 | [],[],_,_,_=>rfl
 | x :: a,y :: b,hl,h1,h2=>by
  unfold lX at h1 h2;by_cases hxy:x=y
  ·rw [if_pos hxy] at h1;rw [if_pos hxy.symm] at h2;rw [hxy,abn (by simpa using hl) h1 h2]
  ·rw [if_neg hxy] at h1;rw [if_neg (Ne.symm hxy)] at h2;have h1:=iH h1;have h2:=iH h2;omega
section
variable {v : ag} (hs : v.Pairwise (· < ·)) (h4 : v.length <= 4)
def elemAt (v:ag) (i:Int):Int:=(v[i.toNat]?).getD 0
theorem elemAt_lt (hs:v.Pairwise (· < ·)) {i j:Int} (hi:0<=i/\i < (v.length:Int)) (hj:0<=j/\j < (v.length:Int)):(elemAt v i < elemAt v j ↔ i < j)/\(elemAt v i=elemAt v j ↔ i=j):=by
 have key:∀ a b:Int,0<=a->a < b->b < (v.length:Int)->elemAt v a < elemAt v b:=λa b h0 h1 h2=>by
  unfold elemAt;rw [zF (show a.toNat < v.length by omega),zF (show b.toNat < v.length by omega)];exact (List.pairwise_iff_getElem.1 hs) _ _ _ _ (by omega)
 rcases Int.lt_trichotomy i j with h | h | h
 ·have:=key i j hi.1 h hj.2;exact ⟨⟨λ_=>h,λ_=>this⟩,⟨λe=>by omega,λe=>by omega⟩⟩
 ·subst h;exact ⟨⟨λh=>absurd h (Int.lt_irrefl _),λh=>absurd h (Int.lt_irrefl _)⟩,⟨λ_=>rfl,λ_=>rfl⟩⟩
 ·have:=key j i hj.1 h hi.2;exact ⟨⟨λ_=>by omega,λ_=>by omega⟩,⟨λe=>by omega,λe=>by omega⟩⟩
theorem acu {n:Nat} {x:Int} (h:x ∈ places n):0<=x/\x < (n:Int):=by
 unfold places at h;obtain ⟨i,hi,rfl⟩:=fE.1 h;have:=List.mem_range.1 hi;omega
include hs in
theorem U4:orders 25 v=(orders 25 (places v.length)).map (List.map (elemAt v)):=by
 have h1:=abY (f:=elemAt v) 25 (places v.length) λa ha b hb=>(elemAt_lt hs (acu ha) (acu hb)).1;have h2:(places v.length).map (elemAt v)=v:=aj0 v;rw [h2] at h1;exact h1
include hs h4 in
theorem ajx:(orders 25 v).Pairwise λa b=>lX a b=true:=by
 rw [U4 hs];have h1:=YZ (ajy ⟨v.length,by omega⟩);refine List.pairwise_map.2 ?_;refine List.Pairwise.imp_of_mem (λ{a b} ha hb hab=>?_) h1;obtain ⟨-,-,ra⟩:=U2 ⟨v.length,by omega⟩ a ha;obtain ⟨-,-,rb⟩:=U2 ⟨v.length,by omega⟩ b hb;rw [abp λx hx y hy=>elemAt_lt hs (ra x hx) (rb y hy)];exact hab
include hs h4 in
theorem UR {o:ag}:o ∈ orders 25 v ↔ o.Perm v:=by
 have hnd:v.Nodup:=hs.imp λh=>Int.ne_of_lt h;rw [U4 hs,fE];constructor
 ·rintro ⟨σ,hσ,rfl⟩;obtain ⟨r1,r2,r3⟩:=U2 ⟨v.length,by omega⟩ σ hσ;refine ajW ?_ hnd ?_ (by rw [bu];exact r1)
  ·refine List.pairwise_map.2 (List.Pairwise.imp_of_mem (λ{a b} ha hb hab he=>hab ?_) r2);exact (elemAt_lt hs (r3 a ha) (r3 b hb)).2.1 he
  ·intro x hx;obtain ⟨i,hi,rfl⟩:=fE.1 hx;have:=r3 i hi;unfold elemAt
   have h9:i.toNat < v.length:=by have h8:(i.toNat:Int)=i:=by omega
                                  have h7:i < (v.length:Int):=this.2;omega
   rw [zF h9];exact List.getElem_mem h9
 ·intro hp;refine ⟨o.map (place v),ajr h4 (by rw [bu,hp.length_eq]) ?_ ?_,?_⟩
  ·refine List.pairwise_map.2 (List.Pairwise.imp_of_mem (λ{a b} ha hb hab he=>hab ?_) (hp.nodup_iff.2 hnd));obtain ⟨i,hi⟩:=List.mem_iff_getElem?.1 (hp.mem_iff.1 ha);obtain ⟨j,hj⟩:=List.mem_iff_getElem?.1 (hp.mem_iff.1 hb);rw [NP hnd hi,NP hnd hj] at he;have:i=j:=by omega
   subst this;rw [hi] at hj;injection hj
  ·intro x hx;obtain ⟨y,hy,rfl⟩:=fE.1 hx;obtain ⟨i,hi⟩:=List.mem_iff_getElem?.1 (hp.mem_iff.1 hy);have:=(zE.1 hi).1;rw [NP hnd hi];omega
  ·rw [List.map_map];conv=>rhs;rw [<-List.map_id o]
   refine List.map_congr_left λy hy=>?_;obtain ⟨i,hi⟩:=List.mem_iff_getElem?.1 (hp.mem_iff.1 hy);show elemAt v (place v y)=y;rw [NP hnd hi];unfold elemAt;rw [kE,hi];rfl
end
end K
namespace K
section
variable {nd : Int} {l : List Ro} {s : S} {r : List Q} {v : ag}
def pick (nd:Int) (l:List Ro) (s:S) (r:List Q):List (List Int)->Option Tr->Option Tr
 | [],b=>b
 | o :: os,b=>pick nd l s r os (if (run nd l s r o).e=0/\better b (run nd l s r o).bC.end_=true then some (run nd l s r o).bC else b)
theorem Vy {o:ag} (h:(run nd l s r o).e=0):(run nd l s r o).bC.stops=o:=by rw [(xY h).2.2.2]
theorem Ve:∀ (L:List (List Int)) (b:Option Tr),L.Pairwise (λa b=>lX a b=true) ->
  (∀ t,pick nd l s r L b=some t->b=some t\/∃ o ∈ L,(run nd l s r o).e=0/\t=(run nd l s r o).bC) /\
  (∀ b0,b=some b0->∃ t,pick nd l s r L b=some t/\(t=b0\/t.end_ < b0.end_)) /\
  (∀ o ∈ L,(run nd l s r o).e=0->∃ t,pick nd l s r L b=some t/\t.end_<=(run nd l s r o).bC.end_/\(t.end_=(run nd l s r o).bC.end_->b=some t\/lX t.stops o=true))
 | [],b,_=>⟨λt h=>.inl h,λb0 h=>⟨b0,h,.inl rfl⟩,λo h=>by cases h⟩
 | a :: L,b,hp=>by
  have hp1:=(List.pairwise_cons.1 hp).1;have hp2:=(List.pairwise_cons.1 hp).2;unfold pick;by_cases hc:(run nd l s r a).e=0/\better b (run nd l s r a).bC.end_=true
  ·rw [if_pos hc];obtain ⟨i1,i2,i3⟩:=Ve L (some (run nd l s r a).bC) hp2;obtain ⟨t0,ht0,hle0⟩:=i2 _ rfl;refine ⟨λt h=>?_,λb0 hb=>?_,λo ho he=>?_⟩
   ·rcases i1 t h with h | ⟨o,ho,h1,h2⟩
    ·injection h with h;exact .inr ⟨a,dJ ..,hc.1,h.symm⟩
    ·exact .inr ⟨o,dN _ ho,h1,h2⟩
   ·subst hb;have hlt:(run nd l s r a).bC.end_ < b0.end_:=iH hc.2;refine ⟨t0,ht0,.inr ?_⟩;rcases hle0 with rfl | h
    ·exact hlt
    ·omega
   ·rcases dw.1 ho with rfl | ho
    ·refine ⟨t0,ht0,?_,λheq=>.inr ?_⟩
     ·rcases hle0 with rfl | h
      ·exact Int.le_refl _
      ·omega
     ·rcases hle0 with rfl | h
      ·rw [Vy hc.1];exact UL _
      ·omega
    ·obtain ⟨t,ht,h1,h2⟩:=i3 o ho he;refine ⟨t,ht,h1,λheq=>?_⟩;rcases h2 heq with h | h
     ·injection h with h;refine .inr ?_;rw [<-h,Vy hc.1];exact hp1 o ho
     ·exact .inr h
  ·rw [if_neg hc];obtain ⟨i1,i2,i3⟩:=Ve L b hp2;refine ⟨λt h=>?_,i2,λo ho he=>?_⟩
   ·rcases i1 t h with h | ⟨o,ho,h1,h2⟩
    ·exact .inl h
    ·exact .inr ⟨o,dN _ ho,h1,h2⟩
   ·rcases dw.1 ho with rfl | ho
    ·cases hb:b with
     | none=>exact absurd ⟨he,by rw [hb];rfl⟩ hc
     | some b0 =>
      obtain ⟨t,ht,h1⟩:=i2 b0 hb;have hge:¬ (run nd l s r o).bC.end_ < b0.end_:=λh=>hc ⟨he,by rw [hb];exact zH h⟩;rw [hb] at ht;refine ⟨t,ht,?_,λheq=>.inl ?_⟩
      ·rcases h1 with rfl | h1 <;> omega
      ·rcases h1 with rfl | h1
       ·rfl
       ·omega
    ·exact i3 o ho he
theorem ajX (hok:bF nd l s r v=true) (h4:v.length<=4):pick nd l s r (orders 25 v) none=best nd l s r v:=by
 have hs:=VF hok;obtain ⟨i1,-,i3⟩:=Ve (nd:=nd) (l:=l) (s:=s) (r:=r) (orders 25 v) none (ajx hs h4);cases hb:best nd l s r v with
 | none =>
  cases hp:pick nd l s r (orders 25 v) none with
  | none=>rfl
  | some t =>
   rcases i1 t hp with h | ⟨o,ho,h1,-⟩
   ·cases h
   ·obtain ⟨t',ht',-⟩:=XX hok ((UR hs h4).1 ho) h1;rw [hb] at ht';cases ht'
 | some t =>
  obtain ⟨g1,g2,-⟩:=XY hok hb;obtain ⟨t',h1,h2,h3⟩:=i3 t.stops ((UR hs h4).2 g1) (by rw [g2]);rw [g2] at h2 h3;rcases i1 t' h1 with h | ⟨o,ho,e1,e2⟩
  ·cases h
  ·have ho2:=(UR hs h4).1 ho;obtain ⟨t2,k1,k2,k3⟩:=XX hok ho2 e1;rw [hb] at k1;injection k1 with k1;subst k1;rw [<-e2] at k2 k3;have h2:t'.end_<=t.end_:=h2;have heq:t'.end_=t.end_:=by omega
   have hst:t'.stops=o:=by rw [e2];exact Vy e1
   have l1:lX t'.stops t.stops=true:=by
    rcases h3 heq with h | h
    ·cases h
    ·exact h
   have l2:=k3 heq.symm;have:o=t.stops:=abn (by rw [ho2.length_eq,g1.length_eq]) (by rw [<-hst];exact l1) l2;rw [h1,e2,this,g2]
end
end K
namespace K
theorem aje {y1 t1 y2 t2:Int} (f:Int) (g1:-1<=y1) (g2:-1<=t1) (g3:-1<=y2) (g4:-1<=t2):gm y1 (gm y2 f t2) t1=gm y2 (gm y1 f t1) t2:=by
 unfold gm;by_cases h1:y1=-1 <;> by_cases h2:y2=-1 <;> by_cases h3:t1=-1 <;> by_cases h4:t2=-1 <;> simp only [h1,h2,h3,h4,ne_eq,not_true_eq_false,not_false_eq_true,false_and,true_and,if_false,and_false] <;> (repeat' split) <;> omega
theorem YN {nd:Int} {l:List Ro} {wt tn y t:Int} (hy:-1<=y) (ht:-1<=t):∀ (z:List (Int × Int)) (f:Int),(∀ p ∈ z,-1<=p.2)->firsts nd l wt tn z (gm y f t)=gm y (firsts nd l wt tn z f) t
 | [],_,_=>rfl
 | p :: z,f,hz=>by
  have h1:∀ f,firsts nd l wt tn (p :: z) f=firsts nd l wt tn z (gm (way nd l p.1 wt tn) f p.2):=λ_=>rfl;rw [h1,h1,aje f (jY _ _ _ _ _).1 (hz p (dJ ..)) hy ht,YN hy ht z _ λq hq=>hz q (dN _ hq)]
def may (s:S) (r:List Q) (q:Q) (all:ag) (f:Int):Bool :=
 (H.fit q.l f q.service).2 && (decide (0<=f) && (decide (f<=s.end_) && (decide ((H.fit q.l f q.service).1 + q.service<=s.end_) && (T.fits s r all && (decide (q.aI<=s.day) && decide (s.day<=q.aP))))))
theorem aiq {s:S} {r:List Q} {q:Q} {all:ag} {f:Int}:labelOf s r q all f=if may s r q all f=true then (H.fit q.l f q.service).1 + q.service else -1:=by
 unfold labelOf;by_cases h1:f=-1
 ·rw [if_pos h1,if_neg];simp only [may,dH,gu];omega
 rw [if_neg h1];by_cases h2:(begins s r q all f).2=true
 ·rw [if_pos h2];obtain ⟨a1,a2,a3,a4,a5,a6,a7⟩:=wW h2;rw [a3] at a6 ⊢;have a8:¬ (s.day < q.aI\/q.aP < s.day\/s.end_ < f\/T.fits s r all=false):=λh=>(a1 ▸ h:False);rw [if_pos];simp only [may,dH,gu];have a9:T.fits s r all=true:=by
   cases h:T.fits s r all with
   | true=>rfl
   | false=>exact absurd (.inr (.inr (.inr h))) a8
  have b1:¬ s.day < q.aI:=λh=>a8 (.inl h);have b2:¬ q.aP < s.day:=λh=>a8 (.inr (.inl h));have b3:¬ s.end_ < f:=λh=>a8 (.inr (.inr (.inl h)));exact ⟨a2,a4,by omega,a6,a9,by omega,by omega⟩
 ·rw [if_neg h2,if_neg];intro h;simp only [may,dH,gu] at h;obtain ⟨c1,c2,c3,c4,c5,c6,c7⟩:=h;apply h2;unfold begins;rw [if_neg]
  ·simp only [dH,gu];exact ⟨c1,c4⟩
  ·rintro (h | h | h | h)
   ·omega
   ·omega
   ·omega
   ·rw [c5] at h;cases h
section
variable (nd : Int) (l : List Ro) (s : S) (r : List Q) (v : ag)
def jB (rest:Nat) (tn:Int):Nat->Int
 | 0=>-1
 | i + 1=>gm (way nd l (req r ((v[i]?).getD 0)).node (T.weight s r (part v rest)) tn) (jB rest tn i) (lab nd l s r v rest i)
def qK (rest:Nat) (tn:Int):Int:=gm (way nd l s.ax (T.weight s r (part v rest)) tn) (jB nd l s r v rest tn v.length) (if rest=0 then s.start else -1)
def jC (m i:Nat):Nat:=(jX v.length (table nd l s r v (2 ^ v.length)) m).length + (gI m (((table nd l s r v (2 ^ v.length))[m]?).getD []) i).length
end
section
variable {nd : Int} {l : List Ro} {s : S} {r : List Q} {v : ag}
theorem Ns (hc:mV nd l s r v) (rest:Nat) (tn:Int):∀ i,-1<=jB nd l s r v rest tn i/\jB nd l s r v rest tn i<=60001000000
 | 0=>by simp [jB]
 | i + 1=>by
  have h1:=Ns hc rest tn i;have h2:=jY nd l (req r ((v[i]?).getD 0)).node (T.weight s r (part v rest)) tn;have h3:=IP hc rest i;rw [jB];unfold gm;split <;> omega
theorem aiO (hc:mV nd l s r v) (hs:s.start<=1000000) (rest:Nat) (tn:Int):-1<=qK nd l s r v rest tn/\qK nd l s r v rest tn<=60001000000:=by
 have h1:=Ns hc rest tn v.length;have h2:=jY nd l s.ax (T.weight s r (part v rest)) tn;have h3:=hc.start;unfold qK;by_cases h:rest=0
 ·rw [if_pos h];unfold gm;split <;> omega
 ·rw [if_neg h,EP rfl];exact h1
theorem abx (rest:Nat) (tn:Int):∀ i,i<=v.length->jB nd l s r v rest tn i=firsts nd l (T.weight s r (part v rest)) tn (((nodes r v).zip (rowOf nd l s r v (table nd l s r v rest) rest)).take i) (-1)
 | 0,_=>rfl
 | i + 1,hi=>by
  have hil:i < v.length:=hi;have hz:((nodes r v).zip (rowOf nd l s r v (table nd l s r v rest) rest))[i]? = some ((req r ((v[i]?).getD 0)).node,lab nd l s r v rest i):=by
   rw [List.getElem?_zip_eq_some];refine ⟨by rw [nodes,dG,zF hil];rfl,?_⟩;unfold lab;rw [zF (by rw [xW];exact hil),Option.getD_some]
  rw [jB,abx rest tn i (by omega),take_snoc hz];unfold firsts;rw [List.foldl_append];rfl
theorem aiN (hc:mV nd l s r v) (rest:Nat) (q:Q):qK nd l s r v rest q.node=arrives nd l s r v (rowOf nd l s r v (table nd l s r v rest) rest) rest q:=by
 have h1:oV nd l s (T.weight s r (part v rest)) q.node rest=gm (way nd l s.ax (T.weight s r (part v rest)) q.node) (-1) (if rest=0 then s.start else -1):=by
  unfold oV;by_cases h:rest=0
  ·rw [if_pos h,if_pos h]
  ·rw [if_neg h,if_neg h,EP rfl]
 unfold arrives qK;have hst:=hc.start;rw [h1,YN (jY _ _ _ _ _).1 (by split <;> omega) _ _ λp hp=>?_,abx rest q.node v.length (zG _),fD (by rw [List.length_zip,xW];omega)];obtain ⟨a,b⟩:=p;exact (Oi (λk hk=>(hc.ok k hk).1) b (List.of_mem_zip hp).2).1
theorem ain (hc:mV nd l s r v) {m i:Nat} {k:Int} (hm:m < 2 ^ v.length) (hk:v[i]? = some k) (hb:m.testBit i=true) :
  lab nd l s r v m i=labelOf s r (req r k) (part v m) (qK nd l s r v (m - 2 ^ i) (req r k).node):=by
 have hil:=(zE.1 hk).1;have dP:=hc.len;have MN:m < 64:=dO hm (Nat.pow_le_pow_right (by omega) dP);obtain ⟨hre,hrb⟩:=KH MN (by omega) hb;have hpw:=Nat.two_pow_pos i;unfold lab;rw [Jg hk,Option.getD_some,if_pos hb,yf (by omega),Option.getD_some,label,hre,aiN hc]
theorem aa9 {m i:Nat} (hb:m.testBit i=false):lab nd l s r v m i=-1:=by
 unfold lab;cases h:v[i]? with
 | none =>
  have:v.length<=i:=by simpa using h
  rw [lK (by rw [xW];exact this)];rfl
 | some k=>rw [Jg h,hb];rfl
theorem adh (row:ag):∀ i,gI 0 row i=[]
 | 0=>rfl
 | i + 1=>by rw [gI,adh row i,Nat.zero_testBit];rfl
theorem abQ:jC nd l s r v 1 0=0:=by
 unfold jC;rw [jX,adh];rfl
theorem ajc {m i:Nat} (h:m.testBit i=false):jC nd l s r v m (i + 1)=jC nd l s r v m i:=by
 unfold jC;rw [gI,h];simp
theorem aja {m i:Nat} (h:m.testBit i=true):jC nd l s r v m (i + 1)=jC nd l s r v m i + 1:=by
 unfold jC;rw [gI,h];simp;omega
theorem ajb (m:Nat):jC nd l s r v m v.length=jC nd l s r v (m + 1) 0:=by
 unfold jC;rw [jX,cZ];rfl
theorem ai' (h:bF nd l s r v=true):jC nd l s r v (2 ^ v.length) 0=(bG nd l s r v).length:=by
 unfold jC bG;rw [if_pos h];rfl
theorem adg {m:Nat} {row:ag} {i:Nat}:∀ {j:Nat},i<=j->∃ x,gI m row j=gI m row i ++ x
 | 0,h=>⟨[],by rw [show i=0 by omega];simp⟩
 | j + 1,h=>by
  by_cases e:i=j + 1
  ·exact ⟨[],by rw [e];simp⟩
  ·obtain ⟨x,hx⟩:=adg (m:=m) (row:=row) (i:=i) (j:=j) (by omega);exact ⟨_,by rw [gI,hx,jb]⟩
theorem ad_ {n:Nat} {t:List (List Int)} {i:Nat}:∀ {j:Nat},i<=j->∃ x,jX n t j=jX n t i ++ x
 | 0,h=>⟨[],by rw [show i=0 by omega];simp⟩
 | j + 1,h=>by
  by_cases e:i=j + 1
  ·exact ⟨[],by rw [e];simp⟩
  ·obtain ⟨x,hx⟩:=ad_ (n:=n) (t:=t) (i:=i) (j:=j) (by omega);exact ⟨_,by rw [jX,hx,jb]⟩
theorem aiz (h:bF nd l s r v=true) {m i:Nat} (hm:m < 2 ^ v.length) (hi:i < v.length) (hb:m.testBit i=true):(bG nd l s r v)[jC nd l s r v m i]? = some ⟨m,i,lab nd l s r v m i⟩:=by
 obtain ⟨x,hx⟩:=ad_ (n:=v.length) (t:=table nd l s r v (2 ^ v.length)) (i:=m + 1) (j:=2 ^ v.length) hm;obtain ⟨y,hy⟩:=adg (m:=m) (row:=((table nd l s r v (2 ^ v.length))[m]?).getD []) (i:=i + 1) (j:=v.length) hi;unfold bG;rw [if_pos h,hx,jX,hy];unfold jC;rw [gI,hb,if_pos rfl,jb,List.getElem?_append_right (by omega),Nat.add_sub_cancel_left,jb,jb,List.getElem?_append_right (zG _),Nat.sub_self,yf hm];rfl
end
end K
namespace K
def rU (a b:Int):Int:=if a < 0\/(0<=b/\b < a) then b else a
def Jd (s:S) (r:List Q) (q:Q) (all:ag) (f:Int):Int :=
 if s.day < q.aI\/q.aP < s.day\/T.fits s r all=false then -1
 else if f < 0\/s.end_ < f then -1
 else if (H.fit q.l f q.service).2=false\/s.end_ < (H.fit q.l f q.service).1 + q.service then -1
 else (H.fit q.l f q.service).1 + q.service
theorem akq (s:S) (r:List Q) (q:Q) (all:ag) (f:Int):Jd s r q all f=labelOf s r q all f:=by
 rw [aiq];unfold Jd may;cases h1:T.fits s r all <;> cases h2:(H.fit q.l f q.service).2 <;> simp <;> (repeat' split) <;> first | rfl | omega
section
variable {nd : Int} {l : List Ro} {s : S} {r : List Q} {v : ag}
theorem aio (i:Nat):lab nd l s r v 0 i=-1:=aa9 (Nat.zero_testBit i)
theorem abz (tn:Int):∀ i,jB nd l s r v 0 tn i=-1
 | 0=>rfl
 | i + 1=>by rw [jB,abz tn i,aio,EP rfl]
theorem aiQ (tn:Int):qK nd l s r v 0 tn=if way nd l s.ax (T.weight s r (part v 0)) tn < 0 then -1 else if s.start=-1 then -1 else s.start + way nd l s.ax (T.weight s r (part v 0)) tn:=by
 have hw:=jY nd l s.ax (T.weight s r (part v 0)) tn;unfold qK;rw [abz,if_pos rfl];unfold gm;by_cases h1:way nd l s.ax (T.weight s r (part v 0)) tn < 0
 ·rw [if_pos h1,if_neg (by omega)]
 ·rw [if_neg h1];by_cases h2:s.start=-1
  ·rw [if_pos h2,if_neg (by omega)]
  ·rw [if_neg h2,if_pos ⟨by omega,h2,.inl rfl⟩]
theorem aiP {rest:Nat} (h:rest ≠ 0) (tn:Int):qK nd l s r v rest tn=jB nd l s r v rest tn v.length:=by
 unfold qK;rw [if_neg h,EP rfl]
theorem aby {rest i:Nat} {tn:Int} (h:lab nd l s r v rest i=-1):jB nd l s r v rest tn (i + 1)=jB nd l s r v rest tn i:=by rw [jB,EP h]
theorem aiS {rest i:Nat} {tn k:Int} (hk:v[i]? = some k) (h:way nd l (req r k).node (T.weight s r (part v rest)) tn < 0):jB nd l s r v rest tn (i + 1)=jB nd l s r v rest tn i:=by
 have hw:=jY nd l (req r k).node (T.weight s r (part v rest)) tn;rw [jB,hk,Option.getD_some,UY (by omega)]
theorem aiR (hc:mV nd l s r v) {rest i:Nat} {tn k:Int} (hk:v[i]? = some k) (h1:0<=lab nd l s r v rest i) (h2:0<=way nd l (req r k).node (T.weight s r (part v rest)) tn) :
  jB nd l s r v rest tn (i + 1)=rU (jB nd l s r v rest tn i) (lab nd l s r v rest i + way nd l (req r k).node (T.weight s r (part v rest)) tn):=by
 have hb:=Ns hc rest tn i;rw [jB,hk,Option.getD_some];unfold gm rU;by_cases h:jB nd l s r v rest tn i=-1\/lab nd l s r v rest i + way nd l (req r k).node (T.weight s r (part v rest)) tn < jB nd l s r v rest tn i
 ·rw [if_pos ⟨by omega,by omega,h⟩,if_pos (by omega)]
 ·rw [if_neg (λh9=>h h9.2.2),if_neg (by omega)]
end
end K
theorem aiJ (a b:Int) (w:World):ay 206 #[.int .i64 a,.int .i64 b] w λe w'=>e=.returned (.int .i64 (K.rU a b))/\w=w':=by
 by_cases h1:a < 0
 ·have c1:decide (a < 0)=true:=zH h1;have HX:=zC (show K.rU a b=b by unfold K.rU;rw [if_pos (.inl h1)]);go_enter Tryz.func206,Tryz.ntmps206;go_wp2_with fail;go_ret;exact ⟨by rw [HX.out];rfl,rfl⟩
 have c1:decide (a < 0)=false:=zI h1;by_cases h2:0<=b
 ·have c2:decide (0<=b)=true:=zH h2;by_cases h3:b < a
  ·have c3:decide (b < a)=true:=zH h3;have HX:=zC (show K.rU a b=b by unfold K.rU;rw [if_pos (.inr ⟨h2,h3⟩)]);go_enter Tryz.func206,Tryz.ntmps206;go_wp2_with fail;go_ret;exact ⟨by rw [HX.out];rfl,rfl⟩
  ·have c3:decide (b < a)=false:=zI h3;have HX:=zC (show K.rU a b=a by unfold K.rU;rw [if_neg (by omega)]);go_enter Tryz.func206,Tryz.ntmps206;go_wp2_with fail;go_ret;exact ⟨by rw [HX.out];rfl,rfl⟩
 ·have c2:decide (0<=b)=false:=zI h2;have HX:=zC (show K.rU a b=a by unfold K.rU;rw [if_neg (by omega)]);go_enter Tryz.func206,Tryz.ntmps206;go_wp2_with fail;go_ret;exact ⟨by rw [HX.out];rfl,rfl⟩
namespace K
theorem abZ:∀ (f:Nat) (l:ag),(orders f l).length < f->orders (f + 1) l=orders f l
 | 0,_,h=>absurd h (by omega)
 | f + 1,l,h=>by
  rw [orders] at h;rw [orders,orders];cases hn:lY l with
  | none=>rfl
  | some l' =>
   rw [hn] at h;dsimp only at h ⊢;rw [dQ] at h;rw [abZ f l' (by omega)]
theorem NJ {l l':ag} (h:lY l=some l') (hl:(orders 25 l).length<=24):orders 25 l=l :: orders 25 l'/\(orders 25 l').length < (orders 25 l).length:=by
 have h1:orders 25 l=l :: orders 24 l':=by
  show orders (24 + 1) l=_;rw [orders,h]
 have h2:orders 25 l'=orders 24 l':=by
  refine abZ 24 l' ?_;rw [h1,dQ] at hl;omega
 rw [h2,h1];exact ⟨rfl,by rw [dQ];omega⟩
theorem NI {l:ag} (h:lY l=none):orders 25 l=[l]:=by
 show orders (24 + 1) l=_;rw [orders,h]
theorem Ny {l l':ag} (h:lY l=some l'):l'.length=l.length:=by
 unfold lY at h;cases hi:mP l (l.length - 1) with
 | none=>rw [hi] at h;cases h
 | some i =>
  rw [hi] at h;injection h with h;rw [<-h];unfold turned;rw [cZ,List.length_reverse,<-cZ,List.take_append_drop,List.length_set,List.length_set]
theorem ajw {nd:Int} {l:List Ro} {s:S} {r:List Q} {v:ag} (hok:bF nd l s r v=true) (h4:v.length<=4):(orders 25 v).length<=24:=by
 rw [U4 (VF hok),bu];exact ajz ⟨v.length,by omega⟩
section
variable {nd : Int} {l : List Ro} {s : S} {r : List Q}
theorem acn {o:ag} {os:List (List Int)} {b:Option Tr} (h:(run nd l s r o).e=0) (h2:better b (run nd l s r o).bC.end_=true):pick nd l s r (o :: os) b=pick nd l s r os (some (run nd l s r o).bC):=by
 rw [pick,if_pos ⟨h,h2⟩]
theorem acm {o:ag} {os:List (List Int)} {b:Option Tr} (h:¬ ((run nd l s r o).e=0/\better b (run nd l s r o).bC.end_=true)):pick nd l s r (o :: os) b=pick nd l s r os b:=by
 rw [pick,if_neg h]
end
end K
def N8 (w:World):Value->List Int
 | .slice (some ad) n _=>(List.range n).map λj=>match w.cell? (ad.add j) with | some (.int _ x)=>x | _=>0
 | _=>[]
theorem acE {w:World} {A:aj} {n c:Nat} {l:ag} (h:Ints w A n l):N8 w (.slice A n c)=l:=by
 cases A with
 | none =>
  have h0:n=0:=by
   cases n with
   | zero=>rfl
   | succ n=>obtain ⟨ad,e,_⟩:=h.2.2 (by omega);cases e
  have:=h.1;rw [h0] at this;rw [List.length_eq_zero_iff.1 this.symm];rfl
 | some ad =>
  apply List.ext_getElem?;intro k;unfold N8;rw [dG];by_cases hk:k < n
  ·obtain ⟨ad',x,e,hx,hc⟩:=h.at_ hk;injection e with e;subst e;rw [List.getElem?_range hk,hx,Option.map_some,hc]
  ·rw [lK (by simpa using hk),lK (by rw [<-h.1];omega)];rfl
def leftOf (w:World) (v m:Value):Nat:=match m with
 | .bool true=>(K.orders 25 (N8 w v)).length + 1
 | _=>0
theorem Nl (w:World) (v:Value):leftOf w v (.bool false)=0:=rfl
theorem rQ {w:World} {A:aj} {n c:Nat} {l:ag} (h:Ints w A n l):leftOf w (.slice A n c) (.bool true)=(K.orders 25 l).length + 1:=by
 unfold leftOf;rw [acE h]
def OI (w:World) (ad:Addr) (n c:Nat) (l:ag):Prop :=
 n=l.length/\n<=c/\∃ g cur,ad=⟨g,0,none⟩/\w.heap[g]? = some (.cells cur 3 (0,0))/\cur.toList.take n=intCells l
theorem OI.ints {w:World} {ad:Addr} {n c:Nat} {l:ag} (h:OI w ad n c l):Ints w (some ad) n l:=by
 obtain ⟨h1,h2,g,cur,rfl,h3,h4⟩:=h;refine ⟨h1,by simp [intCells,h1],λ_=>⟨_,rfl,λj u hu=>?_⟩⟩;rw [lN,cell_of_row w g j cur 3 (0,0) h3];rw [<-h4,List.getElem?_take] at hu;split at hu
 ·simpa using hu
 ·cases hu
theorem OI.cell {w:World} {ad:Addr} {n c k:Nat} {l:ag} {x:Int} (h:OI w ad n c l) (hk:l[k]? = some x):w.cell? (ad.add k)=some (.int .i64 x):=by
 obtain ⟨ad',y,e,hy,hc⟩:=h.ints.at_ (k:=k) (by rw [h.1];exact (zE.1 hk).1);injection e with e;subst e;rw [hk] at hy;injection hy with hy;rw [hy];exact hc
theorem OI.free {w:World} {ad:Addr} {n c:Nat} {l:ag} (h:OI w ad n c l) (k:Nat):w.frozen? (ad.add k)=false:=by
 obtain ⟨h1,h2,g,cur,rfl,h3,h4⟩:=h;rw [lN];exact b_ h3 k
theorem OI.set {w:World} {ad:Addr} {n c:Nat} {l:ag} (h:OI w ad n c l) (k:Nat) (x:Int):OI (w.setCell (ad.add k) (.int .i64 x)) ad n c (l.set k x):=by
 obtain ⟨h1,h2,g,cur,rfl,h3,h4⟩:=h;refine ⟨by rw [List.length_set];exact h1,h2,g,_,rfl,by rw [lN];exact di h3 k _,?_⟩;rw [Array.toList_setIfInBounds,List.take_set,h4];simp [intCells,List.map_set]
theorem OI.below {w w':World} {ad:Addr} {n c:Nat} {l:ag} (h:OI w ad n c l) (hb:af w w'):OI w' ad n c l:=by
 obtain ⟨h1,h2,g,cur,e,h3,h4⟩:=h;exact ⟨h1,h2,g,cur,e,au hb h3,h4⟩
theorem OI.grown {w w':World} {r:Option Nat} {ad:Addr} {n c:Nat} {l:ag} (h:OI w ad n c l) (hg:w.grownBy w' r) (hne:some ad.block ≠ r):OI w' ad n c l:=by
 obtain ⟨h1,h2,g,cur,rfl,h3,h4⟩:=h;exact ⟨h1,h2,g,cur,rfl,(hg.block g (l_.1 h3).1 hne).trans h3,h4⟩
theorem OI.lt {w:World} {ad:Addr} {n c:Nat} {l:ag} (h:OI w ad n c l):ad.block < w.heap.size:=by
 obtain ⟨h1,h2,g,cur,rfl,h3,h4⟩:=h;exact (l_.1 h3).1
theorem Ints.put {w:World} {A:aj} {n m c k:Nat} {l o:ag} {ad:Addr} (h:Ints w A n l) (u:Value) (hO:OI w ad m c o) (hA:∀ ad',A=some ad'->ad'.block ≠ ad.block):Ints (w.setCell (ad.add k) u) A n l:=by
 obtain ⟨h1,h2,g,cur,rfl,h3,h4⟩:=hO;rw [lN];exact h.set u hA
theorem ab7 {w:World} {base:Nat} {v:Value} {n:Nat} {l:ag} (h:w.ownsRow base 3 1 v n (intCells l)) (hn:n=l.length) :
  ∃ A c,v=.slice A n c/\Ints w A n l/\n<=c/\(0 < n->∃ ad,A=some ad/\OI w ad n c l/\base<=ad.block):=by
 obtain ⟨A,c,e,hI⟩:=o_ h hn;obtain ⟨hl,⟨rfl,rfl⟩ | ⟨g,cap,cur,rfl,hb,hh,hnc,_,hsz,ht⟩⟩:=h
 ·exact ⟨A,c,e,hI,aW _,λh0=>absurd h0 (by omega)⟩
 ·injection e with e1 e2 e3;subst e1 e3;refine ⟨_,_,rfl,hI,hnc,λh0=>?_⟩;exact ⟨_,rfl,⟨hn,hnc,g,cur,rfl,hh,by rw [<-ht,Nat.mul_one]⟩,hb⟩
namespace K
def Gh (v:ag) (z:Int):Prop:=(z < 0/\mP v (v.length - 1)=none)\/∃ p:Nat,z=p/\p + 1 < v.length/\mP v (v.length - 1)=mP v (p + 1)
theorem adK {v:ag}:∀ (j:Nat),j < v.length->mP v (v.length - 1)=mP v j->Gh v ((j:Int) - 1)
 | 0,_,h=>.inl ⟨by omega,h⟩
 | j + 1,h1,h=>.inr ⟨j,by omega,h1,h⟩
theorem alx (v:ag):Gh v ((v.length:Int) - 2):=by
 rcases Nat.eq_zero_or_pos v.length with h | h
 ·exact .inl ⟨by omega,by rw [h];rfl⟩
 ·have:=adK (v:=v) (v.length - 1) (by omega) rfl;rwa [show (((v.length - 1:Nat):Int) - 1)=(v.length:Int) - 2 by omega] at this
theorem ai7 {v:ag} {p:Nat} {x y:Int} (h1:v[p]? = some x) (h2:v[p + 1]? = some y):mP v (p + 1)=if y < x then mP v p else some p:=by
 rw [mP,h1,h2];rfl
theorem ai8 {v:ag} {x y:Int} {k:Nat} (h:v[k]? = some y):mQ v x (k + 1)=if y < x then mQ v x k else k:=by
 rw [mQ,h];rfl
def half (D:ag) (j:Nat):List Int:=D.reverse.take j ++ D.drop j
theorem ag' (D:ag):half D 0=D:=by simp [half]
theorem ag9 (D:ag):half D D.length=D.reverse:=by unfold half;rw [fD (by simp),dF (zG _),List.append_nil]
theorem ag_ {P D:ag} {j:Nat} {x:Int} (h:D[D.length - 1 - j]? = some x) (hj:j < D.length):(P ++ half D j).set (P.length + j) x=P ++ half D (j + 1):=by
 have hr:D.reverse[j]? = some x:=by rw [List.getElem?_reverse hj];exact h
 rw [List.set_append_right _ _ (by omega),show P.length + j - P.length=j by omega];congr 1;unfold half;have hl:(D.reverse.take j).length=j:=by simp;omega
 rw [List.set_append_right _ _ (by omega),take_snoc hr,jE hj,hl,Nat.sub_self,List.set_cons_zero,jb];rfl
end K
def aeM (w w':World) (o:Option (List Int)) (e:Ending):Prop :=
 ((o=none/\e=.returned (.tuple #[.slice none 0 0,.bool false]))\/(∃ l A n c,o=some l/\n<=c/\e=.returned (.tuple #[.slice A n c,.bool true])/\Ints w' A n l/\∀ ad,A=some ad->w.heap.size<=ad.block))/\af w w'
theorem next_any (V:aj) (vn vc:Nat) (v:ag) (w:World) (hV:Ints w V vn v) (hn:vn<=1000000000) :
  ay 132 #[.slice V vn vc] w λe w'=>aeM w w' (K.lY v) e:=by
 obtain ⟨i0,hi,hz0,hz1,hz2⟩:=info_parts Tryz.info3;have iK:(w.alloc (.cells #[] 3)).ownsRow w.heap.size 3 1 (.slice (some ⟨w.heap.size,0,none⟩) 0 0) 0 []:=uy (aA w (.cells #[] 3)) (zG _);have ba:af w (w.alloc (.cells #[] 3)):=ai.alloc (zG _) _;have bM:=zC hV.1;obtain ⟨z0,hz⟩:∃ z0,z0=(vn:Int) - 2:=⟨_,rfl⟩;have HSK:=zC (show K.Gh v z0 by have h:=K.alx v;rw [<-bM.out,<-hz] at h;exact h);have kz:IntKind.i64.wrap ((vn:Int) - 2)=z0:=by rw [dh _ (by omega)];omega
 have hz1':z0 < (vn:Int):=by omega
 clear hz;go_enter Tryz.func132,Tryz.ntmps132;go_wp2_with (at_builtin;refine nU rfl (.tmp 10) (.tmp 11) 48 rfl w.heap.size 3 i0 (.int .i64 0) 1 8 Tryz.underlying48 hi hz0 hz1 hz2 rfl (by decide) (.slice (some ⟨w.heap.size,0,none⟩) 0 0) 0 [] rfl iK V vn vc (intCells v) rfl (hV.below ba).2 (qI v) (by simp only [maxLen];omega) (by omega) (by first | (simp;done) | (simp;omega)) ?_;intro v' w1 hown1 hgrow1 SB;rw [Nat.zero_add,List.nil_append] at hown1;obtain ⟨A,c,rfl,hI,-,hO⟩:=ab7 hown1 bM.out;have hb1:af w w1:=dY ba hgrow1 (CQ (zG _));clear hown1 hgrow1 SB iK ba);go_loopw [5] (λv5 wr=>∃ z:Int,v5=.int .i64 z/\z < vn/\Hid (K.Gh v z)/\af w1 wr) (λv5 _=>(intOf v5 + 1).toNat)
 case atStart=>exact ⟨z0,rfl,hz1',HSK.out,ai⟩
 case round =>
  clear kz;obtain ⟨z,rfl,hzn,hsk,hbr⟩:=hrel;rcases hsk.out with ⟨hneg,hnone⟩ | ⟨p,hp,hp1,Uc⟩
  ·have c1:decide (0<=z)=false:=by simp;omega
   have c2:decide (z < 0)=true:=by simp;omega
   have bH:=zC (show K.lY v=none by unfold K.lY;rw [hnone]);clear hsk hnone;go_wp2_with fail;go_quiet (fail);go_wp2_with fail;go_ret2
   exact ⟨.inl ⟨bH.out,rfl⟩,below_drewN (bel hb1 hbr) _⟩
  ·subst hp;rw [<-bM.out] at hp1 Uc;obtain ⟨ad,rfl,Zx,hbase⟩:=hO (by omega);clear hO;obtain ⟨q,hq⟩:=zB (p + 1);have hpl:p < vn:=by omega
   have EE:q < vn:=by omega
   have HOI:=zC Zx;obtain ⟨Qe,x,ea,hx,cp⟩:=(hI.below hbr).at_ hpl;injection ea with ea;subst ea;obtain ⟨Qe,y,ea,hy,cq⟩:=(hI.below hbr).at_ EE;injection ea with ea;subst ea;have hst:=K.ai7 hx (by rw [<-hq];exact hy);have k1:decide ((0:Int)<=(p:Int))=true:=by simp
   have k2:decide ((p:Int) < 0)=false:=by simp
   have k3:IntKind.i64.wrap ((p:Int) + 1)=(q:Int):=by rw [dh _ (by omega)];omega
   obtain ⟨k4,k5⟩:=zJ (a:=p) (b:=vn) (by omega);obtain ⟨k6,k7⟩:=zJ (a:=q) (b:=vn) (by omega);have HX:=zC hx;have WU:=zC Uc;have HQ:=zC hq;clear hx hy Uc hsk hq Zx hp1;by_cases hlt:y < x
   ·have c1:decide (y < x)=true:=zH hlt;obtain ⟨zz,hzz⟩:∃ zz,zz=(p:Int) - 1:=⟨_,rfl⟩;have k8:IntKind.i64.wrap ((p:Int) - 1)=zz:=by rw [dh _ (by omega)];omega
    have HN:=zC (show K.Gh v zz by rw [hzz];exact K.adK p (by rw [<-bM.out];exact hpl) (by rw [<-bM.out,WU.out,hst,if_pos hlt]));have hzv:zz < (vn:Int):=by omega
    have hmz:(zz + 1).toNat < ((p:Int) + 1).toNat:=by omega
    clear hst hzz;go_wp2_with fail;go_quiet (fail);go_wp2_with fail;go_roundw
    case rel=>exact ⟨zz,rfl,hzv,HN.out,below_drewN hbr _⟩
    case measure=>exact hmz
   ·have c1:decide (y < x)=false:=zI hlt;have HI:=zC (show K.mP v (v.length - 1)=some p by rw [<-bM.out,WU.out,hst,if_neg hlt]);have HXY:=zC hlt;clear hst hlt;obtain ⟨k0,hk0⟩:=zB (vn - 1);have k8:IntKind.i64.wrap ((vn:Int) - 1)=(k0:Int):=by rw [dh _ (by omega)];omega
    have hk1:k0 + 1=vn:=by omega
    have Aw:=zC hk1;have hk2:k0 < vn:=by omega
    have hk3:p<=k0:=by omega
    clear hk0 hk1;go_wp2_with fail;go_quiet (fail);obtain ⟨w2,hnew⟩:=zB (wr.drewN nq);rw [<-hnew];have hb2:af w1 w2:=by rw [hnew];exact below_drewN hbr _
    clear hnew hbr cp cq k1 c1;go_wp2_with fail;clear k2 k8;go_loopw [6] (λv6 ws=>∃ k:Nat,v6=.int .i64 k/\p<=k/\k < vn/\Hid (K.mQ v x vn=K.mQ v x (k + 1))/\af w2 ws) (λv6 _=>(intOf v6).toNat)
    case atStart=>exact ⟨k0,rfl,hk3,hk2,by rw [Aw.out];exact rfl,ai⟩
    case round =>
     clear hk2 hk3;obtain ⟨k,rfl,hpk,hkn,hnk,hbs⟩:=hrel;have MB:=bel hb2 hbs;obtain ⟨Qe,u,ea,hu,cu⟩:=(hI.below MB).at_ hkn;injection ea with ea;subst ea;obtain ⟨Qe,x1,ea,hx1,cp⟩:=(hI.below MB).at_ hpl;rw [HX.out] at hx1;injection hx1 with hx1;subst hx1;injection ea with ea;subst ea;have hst:=K.ai8 (x:=x) hu;obtain ⟨j1,j2⟩:=zJ (a:=k) (b:=vn) (by omega);by_cases IB:u < x
     ·have c1:decide (u < x)=true:=zH IB;have hne:k ≠ p:=by
       intro e;rw [e,HX.out] at hu;injection hu with hu;omega
      obtain ⟨kk,hkk⟩:∃ kk:Nat,k=kk + 1:=⟨k - 1,by omega⟩;have j3:IntKind.i64.wrap ((k:Int) - 1)=(kk:Int):=by rw [dh _ (by omega)];omega
      have HN:=zC (show K.mQ v x vn=K.mQ v x (kk + 1) by rw [hnk.out,hst,if_pos IB,hkk]);have g1:p<=kk:=by omega
      have g2:kk < vn:=by omega
      have g3:kk < k:=by omega
      clear hu hnk hst hkk hne;go_wp2_with fail;go_quiet (fail);go_wp2_with fail;go_roundw
      case rel=>exact ⟨kk,rfl,g1,g2,HN.out,below_drewN hbs _⟩
      case measure=>simp [intOf];exact g3
     ·have c1:decide (u < x)=false:=zI IB;have HNK:=zC (show K.mQ v x vn=k by rw [hnk.out,hst,if_neg IB]);have HU:=zC hu;clear hnk hst hu IB;go_wp2_with fail;go_quiet (fail);obtain ⟨w3,hnew⟩:=zB (wr.drewN nq);rw [<-hnew];have hb3:af w1 w3:=by rw [hnew];exact below_drewN MB _
      clear hnew hbs MB cu cp c1;have O3:=HOI.out.below hb3;have cp:=O3.cell HX.out;have cu:=O3.cell HU.out;have fp:=O3.free p;obtain ⟨w4,hw4⟩:=zB (w3.setCell (ad.add p) (.int .i64 u));have O4:OI w4 ad vn c (v.set p u):=by rw [hw4];exact O3.set p u
      obtain ⟨u4,hu4⟩:∃ u4,(v.set p u)[k]? = some u4:=⟨_,zF (by rw [List.length_set,<-bM.out];exact hkn)⟩;have Yo:=O4.cell hu4;have YU:=O4.free k;obtain ⟨w5,hw5⟩:=zB (w4.setCell (ad.add k) (.int .i64 x));obtain ⟨S,hS⟩:=zB ((v.set p u).set k x);have O5:OI w5 ad vn c S:=by rw [hw5,hS];exact O4.set k x
      have z5:w5.heap.size=w3.heap.size:=by rw [hw5,hw4];simp
      have hb5:af w w5:=by
       rw [hw5,hw4];exact ((bel hb1 hb3).setCell (by rw [add_block];exact hbase) _).setCell (by rw [add_block];exact hbase) _
      have hSl:S.length=vn:=by rw [hS,List.length_set,List.length_set,bM.out]
      have HT:=zC (show K.lY v=some (S.take q ++ (S.drop q).reverse) by
       unfold K.lY;rw [HI.out];show some (K.turned v p (K.mQ v ((v[p]?).getD 0) v.length))=_;rw [HX.out,Option.getD_some,<-bM.out,HNK.out];unfold K.turned;rw [HX.out,HU.out,Option.getD_some,Option.getD_some,<-hS,HQ.out])
      have hblk5:=O5.lt;have aar:(w5.alloc (.cells #[] 3)).ownsRow w5.heap.size 3 1 (.slice (some ⟨w5.heap.size,0,none⟩) 0 0) 0 []:=uy (aA w5 (.cells #[] 3)) (zG _);have Qr:af w5 (w5.alloc (.cells #[] 3)):=ai.alloc (zG _) _;have Zl:=(Ints.drop (O5.ints) rfl (k:=q) (by omega)).below Qr;obtain ⟨mm,hmm⟩:=zB (vn - q);have hqc:q<=c:=by have:=O5.2.1;omega
      have hnc:vn<=c:=O5.2.1;have k8:(q:Int)<=(vn:Int):=by omega
      have k9:(vn:Int)<=(c:Int):=by omega
      have MO:q + mm=vn:=by omega
      have HMQ:=zC MO;have hDl:mm=(S.drop q).length:=by rw [List.length_drop,hSl];omega
      have yz:=zC hDl;have qW:=zC hSl;have ant:mm<=1000000000:=by omega
      clear hDl hSl MO;rw [hw4] at Yo YU;go_upto_region 13 with fail;rw [<-hw4,<-hw5];clear hw4 hw5 Yo YU cp cu fp O3 O4 z5;go_wp2_with (at_builtin;refine nU rfl (.tmp 64) (.tmp 68) 48 rfl w5.heap.size 3 i0 (.int .i64 0) 1 8 Tryz.underlying48 hi hz0 hz1 hz2 rfl (by decide) (.slice (some ⟨w5.heap.size,0,none⟩) 0 0) 0 [] rfl aar (some (ad.add q)) (vn - q) _ (intCells (S.drop q)) rfl Zl.2 (qI _) (by simp only [maxLen];omega) (by omega) (by first | (simp;done) | (simp;omega)) ?_;intro v' w6 hown6 hgrow6 gy;rw [Nat.zero_add,List.nil_append,<-hmm] at hown6;obtain ⟨R,rc,rfl,hR⟩:=o_ hown6 yz.out;have hRb:=(λad' (e:R=some ad')=>(hown6.lt ad'.block (by rw [e];rfl)).1);have hb6:af w5 w6:=dY Qr hgrow6 (CQ (zG _));have O6:=O5.below hb6;have Hu:=bel hb5 hb6;clear hown6 hgrow6 gy aar Qr Zl k8 k9;try (rw [<-hmm]);clear hmm);go_loopw [9] (λv9 ws=>∃ j:Nat,v9=.int .i64 j/\j<=mm/\OI ws ad vn c (S.take q ++ K.half (S.drop q) j)/\Ints ws R mm (S.drop q)/\af w ws) (λv9 _=>mm - (intOf v9).toNat)
      case atStart=>exact ⟨0,rfl,by omega,by rw [K.ag',List.take_append_drop];exact O6,hR,Hu⟩
      case round =>
       clear O6 hR Hu hb6;obtain ⟨j,rfl,hj,Ec,hRj,hbj⟩:=hrel;by_cases hlt:j < mm
       ·obtain ⟨zz,hzz⟩:=zB (q + j);obtain ⟨m1,hm1⟩:∃ m1:Nat,mm=m1 + 1:=⟨mm - 1,by omega⟩;obtain ⟨yy,CO⟩:=zB (m1 - j);have MO:=HMQ.out;have hym:yy < mm:=by omega
        have hzv:zz < vn:=by omega
        obtain ⟨adr,e,hAR,he,ce⟩:=hRj.at_ hym;obtain ⟨old,hold⟩:∃ old,(S.take q ++ K.half (S.drop q) j)[zz]? = some old:=⟨_,zF (by rw [<-Ec.1];exact hzv)⟩;have cz:=Ec.cell hold;have fz:=Ec.free zz;have hPl:(S.take q).length=q:=by rw [List.length_take,qW.out];omega
        have bH:(S.take q ++ K.half (S.drop q) j).set zz e=S.take q ++ K.half (S.drop q) (j + 1):=by
         rw [hzz];have h:=K.ag_ (P:=S.take q) (D:=S.drop q) (j:=j) (x:=e) (by rw [<-yz.out,hm1,show m1 + 1 - 1 - j=yy by omega];exact he) (by rw [<-yz.out];exact hlt);rwa [hPl] at h
        have Zz:=Ec.set zz e;rw [bH] at Zz;have o5:=hRj.put (.int .i64 e) (k:=zz) Ec (λad' e'=>by have:=hRb ad' e';omega);have hbn:af w (wr.setCell (ad.add zz) (.int .i64 e)):=hbj.setCell (by rw [add_block];exact hbase) _;have j1:IntKind.i64.wrap ((q:Int) + (j:Int))=(zz:Int):=by rw [dh _ (by omega)];omega
        have j2:IntKind.i64.wrap ((mm:Int) - 1)=(m1:Int):=by rw [dh _ (by omega)];omega
        have j3:IntKind.i64.wrap ((m1:Int) - (j:Int))=(yy:Int):=by rw [dh _ (by omega)];omega
        obtain ⟨j4,j5⟩:=zJ (a:=yy) (b:=mm) (by omega);obtain ⟨j6,j7⟩:=zJ (a:=zz) (b:=vn) (by omega);subst hAR;clear hold hPl bH he hzz hm1 CO hym hzv MO;go_wp2_with fail;go_roundw
        case rel=>exact ⟨j + 1,by go_num,hlt,Zz,o5,hbn⟩
        case measure=>simp [intOf];omega
       ·have HE:=zC (show S.take q ++ K.half (S.drop q) j=S.take q ++ (S.drop q).reverse by rw [show j=mm by omega,yz.out,K.ag9]);go_wp2_with fail;go_ret2
        exact ⟨.inr ⟨_,some ad,vn,c,HT.out,hnc,rfl,by rw [<-HE.out];exact Ec.ints,λad' e=>by injection e with e;rw [<-e];exact hbase⟩,hbj⟩
theorem VS {nd:Int} {l:List Ro} {a k:Int} {tg:Nat} {w:World} {A:aj} {n:Nat} (hI:Ints w A n (K.times nd l a k)) (hne:K.aZ nd l=0) (ha:0<=a/\a < nd) (htg:(tg:Int) < nd) :
  ∃ ad,A=some ad/\w.cell? (ad.add tg)=some (.int .i64 (K.way nd l a k (tg:Int)))/\(tg:Int) < (n:Int):=by
 have hn:n=nd.toNat:=by rw [hI.1];exact K.OD hne ha
 have hdt:tg < n:=by omega
 obtain ⟨ad,y,rfl,hy,cy⟩:=hI.at_ hdt;refine ⟨ad,rfl,?_,by omega⟩;rw [cy];unfold K.way G.at_;rw [kE,hy];rfl
theorem ae1 (x:C) (V:aj) (vn vc:Nat) (v:ag) (A:aj) (tn tc:Nat) (ts:ag) (m tg:Nat) (w:World) (hok:K.bF x.nd x.l x.s x.r v=true) (hx:At w x) (hV:Ints w V vn v) (hT:Ints w A tn ts)
  (hts:∀ i,i < vn->∃ y,ts[m * 6 + i]? = some y/\(m.testBit i=true->y=K.lab x.nd x.l x.s x.r v m i)) (hm:m < 64) (hto:(tg:Int) < x.nd) :
  ay 184 #[.agg #[.int .i64 x.nd,.slice x.A x.n x.c],fG x.s,.slice x.B x.m x.d,.slice V vn vc,.slice A tn tc,.int .i64 m,.int .i64 tg] w (og w (K.qK x.nd x.l x.s x.r v m tg)):=by
 obtain ⟨w1,hw1⟩:=zB (w.alloc (.cells #[.int .i64 x.nd,.slice x.A x.n x.c] 24));obtain ⟨w2,hw2⟩:=zB (w1.alloc (.cells #[.int .i64 x.s.day,.int .i64 x.s.ax,.int .i64 x.s.start,.int .i64 x.s.end_,.int .i64 x.s.aU,.slice x.s.A x.s.n x.s.c] 63));have z1:w1.heap.size=w.heap.size + 1:=by rw [hw1];exact aF _ _
 have b01:=aH hw1;have b12:=aH hw2;have hP:Net w2 w.heap.size x.nd x.A x.n x.c:=by
  have h1:Net w1 w.heap.size x.nd x.A x.n x.c:=by rw [hw1];exact Net.new _ _ _ _ _
  exact h1.below b12
 have hS:bI w2 (w.heap.size + 1) x.s:=by rw [<-z1,hw2];exact bI.new _ _
 have hb:=bel b01 b12;have aY:=zC hok;have HC:=zC (K.ru hok);have iR:=zC hV.1;have hv6:vn<=6:=by rw [hV.1];exact (K.jl hok).2.2.2.2.1
 obtain ⟨hne,hck,hdp,-,-,-⟩:=K.jl hok;obtain ⟨-,⟨d0,-⟩,st0,st1,tC⟩:=K.tu hck;have iq:=zC hne;have nZ:=zC hts;clear hne hck hok hts;go_enter Tryz.func184,Tryz.ntmps184;go_wp2_with fail;rw [<-hw1,<-hw2];clear hw1 hw2 z1 b01 b12;have hmk:∀ w',af w2 w'->(λw':World=>af w2 w'/\w'.cell? ⟨w.heap.size + 1,0,none⟩=some (.int .i64 x.s.day)/\w'.cell? ⟨w.heap.size + 1,1,none⟩=some (.int .i64 x.s.ax)/\w'.cell? ⟨w.heap.size + 1,2,none⟩=some (.int .i64 x.s.start)/\w'.cell? ⟨w.heap.size + 1,3,none⟩=some (.int .i64 x.s.end_)/\w'.cell? ⟨w.heap.size + 1,4,none⟩=some (.int .i64 x.s.aU)/\w'.cell? ⟨w.heap.size + 1,5,none⟩=some (.slice x.s.A x.s.n x.s.c)) w':=λw' h=>⟨h,(hS.below h).cells⟩;have S0:=hmk _ ai;have hSd:∀ w',(λw':World=>af w2 w'/\w'.cell? ⟨w.heap.size + 1,0,none⟩=some (.int .i64 x.s.day)/\w'.cell? ⟨w.heap.size + 1,1,none⟩=some (.int .i64 x.s.ax)/\w'.cell? ⟨w.heap.size + 1,2,none⟩=some (.int .i64 x.s.start)/\w'.cell? ⟨w.heap.size + 1,3,none⟩=some (.int .i64 x.s.end_)/\w'.cell? ⟨w.heap.size + 1,4,none⟩=some (.int .i64 x.s.aU)/\w'.cell? ⟨w.heap.size + 1,5,none⟩=some (.slice x.s.A x.s.n x.s.c)) w'->(λw':World=>af w2 w'/\w'.cell? ⟨w.heap.size + 1,0,none⟩=some (.int .i64 x.s.day)/\w'.cell? ⟨w.heap.size + 1,1,none⟩=some (.int .i64 x.s.ax)/\w'.cell? ⟨w.heap.size + 1,2,none⟩=some (.int .i64 x.s.start)/\w'.cell? ⟨w.heap.size + 1,3,none⟩=some (.int .i64 x.s.end_)/\w'.cell? ⟨w.heap.size + 1,4,none⟩=some (.int .i64 x.s.aU)/\w'.cell? ⟨w.heap.size + 1,5,none⟩=some (.slice x.s.A x.s.n x.s.c)) w'.drew:=λw' h=>hmk _ h.1.drew;have nN:∀ w',af w2 w'->Ints w' V vn v:=λw' h=>(hV.below hb).below h;have hAr:∀ w',af w2 w'->Ints w' x.s.A x.s.n x.s.l:=λw' h=>((hx.below hb).below h).gW;have GI:∀ w',af w2 w'->dm w' x.B x.m x.r:=λw' h=>((hx.below hb).below h).bf;have aaK:m < 256:=by omega
 have vK:vn<=8:=by omega
 have hpl:(K.part v m).length<=1000000000:=by have h1:=K.qM v m;rw [<-iR.out] at h1;omega
 go_region_held3 (λw':World=>af w2 w'/\w'.cell? ⟨w.heap.size + 1,0,none⟩=some (.int .i64 x.s.day)/\w'.cell? ⟨w.heap.size + 1,1,none⟩=some (.int .i64 x.s.ax)/\w'.cell? ⟨w.heap.size + 1,2,none⟩=some (.int .i64 x.s.start)/\w'.cell? ⟨w.heap.size + 1,3,none⟩=some (.int .i64 x.s.end_)/\w'.cell? ⟨w.heap.size + 1,4,none⟩=some (.int .i64 x.s.aU)/\w'.cell? ⟨w.heap.size + 1,5,none⟩=some (.slice x.s.A x.s.n x.s.c))
  (first | assumption | exact S0 | exact hSd _ (by assumption))
  (first
   | (go_at_call 183;refine (acd V vn vc v m _ (nN _ (And.left (by assumption))) vK aaK).mono ?_;rintro e wb ⟨⟨RA,rn,rc,rfl,hR⟩,bb⟩;have S1:=hmk _ (bel (And.left (by assumption)) bb);have hrn:rn<=1000000000:=by (rw [hR.1];exact hpl))
   | (go_at_call 146;refine (Oo x.s x.B x.m x.d x.r RA rn rc (K.part v m) _ (hAr _ S1.1) hx.b2 (GI _ S1.1) hx.b3 hx.b4 hR hrn).mono ?_;rintro e wc ⟨rfl,bc⟩;have S2:=hmk _ (bel S1.1 bc))
   | fail)
 obtain ⟨wt,hwt⟩:=zB (T.weight x.s x.r (K.part v m));rw [<-hwt];have yE:=zC hwt;have Kt:=S2.1;have hP:=hP.below Kt;have hS:=hS.below Kt;have hb:=bel hb Kt;clear S0 S1 S2 hSd hmk nN hAr GI hR hrn hpl hwt bb bc Kt aaK vK;have p0:=hP.c0;have p1:=hP.c1;obtain ⟨s0,s1,s2,s3,s4,s5⟩:=hS.cells;have k3:(0:Int)<=(tg:Int):=by omega
 by_cases hm0:m=0
 ·subst hm0;have hF:=K.aiQ (nd:=x.nd) (l:=x.l) (s:=x.s) (r:=x.r) (v:=v) (tg:Int);rw [<-yE.out] at hF;have O9:=zC hF;clear hF;go_wp2_with fail;refine (Om x.nd x.A x.n x.c x.l x.s.ax wt _ (hx.below hb).net hx.b1).mono ?_;rintro e wy ⟨⟨TA,yn,yc,rfl,BO⟩,yS⟩;have hF:=O9.out;obtain ⟨y,EI⟩:=zB (K.way x.nd x.l x.s.ax wt (tg:Int));obtain ⟨Ko,rfl,cy,j4⟩:=VS BO iq.out ⟨d0,hdp⟩ hto;have hyb:=K.jY x.nd x.l x.s.ax wt (tg:Int);rw [<-EI] at hyb hF cy;have s2:=((hS.below yS).cells).2.2.1;clear EI BO p0 p1 s0 s1 s3 s4 s5;have hsm:IntKind.i64.wrap (x.s.start + y)=x.s.start + y:=dh _ (by omega);have anC:wrap64 (x.s.start + y)=x.s.start + y:=by rw [<-IntWalk.i64_left];exact hsm
  by_cases hy0:y < 0
  ·have c1:decide (y < 0)=true:=zH hy0;rw [if_pos hy0] at hF;have HF:=zC hF;clear hF;go_wp2_with fail;go_ret;exact ⟨by rw [HF.out];rfl,bel hb yS⟩
  ·have c1:decide (y < 0)=false:=zI hy0;rw [if_neg hy0,if_neg (by omega)] at hF;have HF:=zC hF;clear hF;go_wp2_with fail;go_ret;exact ⟨by rw [HF.out];rfl,bel hb yS⟩
 ·have ano:((m:Int) == 0)=false:=by simp;exact hm0
  have anp:(m == 0)=false:=by simp;exact hm0
  go_wp2_with fail;have HP:=zC hP;have HS:=zC hS;have HB:=zC hb;clear hb hP hS p0 p1 s0 s1 s2 s3 s4 s5;go_loopw [17,18] (λv17 v18 wr=>∃ (i:Nat) (f:Int),v17=.int .i64 f/\v18=.int .i64 i/\i<=vn/\Hid (f=K.jB x.nd x.l x.s x.r v m (tg:Int) i)/\af wc wr) (λ_ v18 _=>vn - (intOf v18).toNat)
  case atStart=>exact ⟨0,-1,rfl,rfl,by omega,rfl,ai⟩
  case round =>
   obtain ⟨i,f,rfl,rfl,hi,hf,hbr⟩:=hrel;have hb:=bel HB.out hbr;have hfb:=K.Ns HC.out m (tg:Int) i;rw [<-hf.out] at hfb;by_cases hlt:i < vn
   ·obtain ⟨z,hz,hzi⟩:=nZ.out i hlt;have HZI:=zC hzi;clear hzi;obtain ⟨m6,o6⟩:=zB (m * 6);obtain ⟨j,hj⟩:=zB (m6 + i);rw [<-o6,<-hj] at hz;have hmt:j < tn:=by rw [hT.1];exact (zE.1 hz).1
    obtain ⟨adt,z2,rfl,hz2,cz⟩:=(hT.below hb).at_ hmt;rw [hz] at hz2;injection hz2 with hz2;subst hz2;have UE:IntKind.i64.wrap ((m:Int) * 6)=(m6:Int):=by rw [dh _ (by omega)];omega
    have UF:IntKind.i64.wrap ((m6:Int) + (i:Int))=(j:Int):=by rw [dh _ (by omega)];omega
    obtain ⟨II,IJ⟩:=zJ (a:=j) (b:=tn) (by omega);obtain ⟨UA,UC⟩:=zJ (a:=i) (b:=vn) (by omega);have ML:i < 8:=by omega
    have Ie:m < 256:=by omega
    have hlt':decide (i < vn)=true:=zH hlt;have uo:decide ((i:Int) < (vn:Int))=true:=zH UC;clear hz o6 hj hmt;go_upto_region 12 with fail;clear UE UF II IJ cz;cases hbit:m.testBit i
    ·have hb1:bits BinOp.and IntKind.i64 ((m:Int) / 2 ^ i) 1=0:=by rw [oP Ie ML,hbit];rfl
     have HF:=zC (show f=K.jB x.nd x.l x.s x.r v m (tg:Int) (i + 1) by rw [K.aby (K.aa9 hbit)];exact hf.out);clear hf;go_wp2_with fail;clear hb1;go_roundw
     case rel=>(go_light;exact ⟨i + 1,f,rfl,by go_num,hlt,HF.out,hbr⟩)
     case measure=>(go_light;simp [intOf] <;> omega)
    ·have hb1:bits BinOp.and IntKind.i64 ((m:Int) / 2 ^ i) 1=1:=by rw [oP Ie ML,hbit];rfl
     have hzl:=HZI.out hbit;have hlb:=K.IP (nd:=x.nd) (l:=x.l) (s:=x.s) (r:=x.r) HC.out m i;rw [<-hzl] at hlb;have wL:=zC hzl;clear hzl;by_cases hz0:0<=z
     ·have c1:decide (0<=z)=true:=zH hz0;go_upto_region 13 with fail;clear hb1 hbit;obtain ⟨jJ,k,rfl,hki,ci⟩:=(hV.below hb).at_ hlt;obtain ⟨hk0,hk1,hkn⟩:=K.Jl _ _ (K.jl aY.out).2.2.2.2.2 _ (zD hki);obtain ⟨j,rfl⟩:∃ j:Nat,k=(j:Int):=⟨k.toNat,by omega⟩;have hjm:j < x.m:=by rw [hx.bf.1];omega
      obtain ⟨uT,q,vJ,hgq,-,e0,-⟩:=((hx.below hb).bf).at_ hjm;have wI:=zC vJ;have Wu:=zC hki;have hrq:=K.lZ hgq;rw [hrq] at hkn;have fQ:=zC hrq;have fU:0<=q.node:=by
       have h1:=(K.jl aY.out).2.2.2.1 q (zD hgq);exact (K.Dl h1).1.1
      have hP:=HP.out.below hbr;have p0:=hP.c0;have p1:=hP.c1;have jL:∀ w',af wr w'->gq w' x.A x.n x.l:=λw' h=>aX.below ((hx.below hb).net) h;obtain ⟨y,EI⟩:=zB (K.way x.nd x.l q.node wt (tg:Int));have hyb:=K.jY x.nd x.l q.node wt (tg:Int);rw [<-EI] at hyb;have JQ:=zC EI;have j1:(j:Int) < (x.m:Int):=by omega
      have j2:(0:Int)<=(j:Int):=by omega
      rw [vJ];clear hP hki hgq vJ hrq EI hjm hk0 hk1;go_cut [20] from 65 to 78 (λv20 wx=>v20=.int .i64 y/\af wc wx)
      case first =>
       go_region_with (first | (go_at_call 147;refine (Om x.nd x.A x.n x.c x.l q.node wt _ (jL _ ai.drew) hx.b1).mono ?_;rintro e wy ⟨⟨TA,yn,yc,rfl,BO⟩,yS⟩;obtain ⟨Ko,rfl,cy,j4⟩:=VS BO iq.out ⟨fU,hkn⟩ hto;rw [<-JQ.out] at cy) | fail)
       all_goals (clear p0 p1 e0 ci;go_wp2_with fail;go_meet)
       all_goals (exact ⟨rfl,bel hbr (bel ai.drew yS)⟩)
      case rest =>
       obtain ⟨rfl,hbx⟩:=hcut;clear p0 p1 jL e0 ci j1 j2;have hb:=bel HB.out hbx;by_cases hy0:0<=y
       ·have c2:decide (0<=y)=true:=zH hy0;obtain ⟨sm,hsm⟩:=zB (z + y);have ksm:IntKind.i64.wrap (z + y)=sm:=by rw [dh _ (by omega)];exact hsm.symm
        obtain ⟨g,hg⟩:=zB (K.rU f sm);have HF:=zC (show g=K.jB x.nd x.l x.s x.r v m (tg:Int) (i + 1) by
         rw [K.aiR HC.out Wu.out (by rw [<-wL.out];exact hz0) (by rw [fQ.out,<-yE.out,<-JQ.out];exact hy0),<-hf.out,<-wL.out,fQ.out,<-yE.out,<-JQ.out,<-hsm];exact hg)
        clear hf hsm;go_wp2_with fail;refine (aiJ f sm _).mono ?_;rw [<-hg];rintro e w8 ⟨rfl,rfl⟩;clear ksm hg;go_wp2_with fail;rw [<-wI.out];go_roundw
        case rel=>(go_light;exact ⟨i + 1,g,rfl,by go_num,hlt,HF.out,hbx⟩)
        case measure=>(go_light;simp [intOf] <;> omega)
       ·have c2:decide (0<=y)=false:=zI hy0;have HF:=zC (show f=K.jB x.nd x.l x.s x.r v m (tg:Int) (i + 1) by
         rw [K.aiS Wu.out (by rw [fQ.out,<-yE.out,<-JQ.out];omega)];exact hf.out)
        clear hf;go_wp2_with fail;rw [<-wI.out];go_roundw
        case rel=>(go_light;exact ⟨_,_,⟨i + 1,f,rfl,by go_num,hlt,HF.out⟩,rfl,rfl,rfl,rfl⟩)
        case measure=>(go_light;simp [intOf] <;> omega)
     ·have c1:decide (0<=z)=false:=zI hz0;have HF:=zC (show f=K.jB x.nd x.l x.s x.r v m (tg:Int) (i + 1) by rw [K.aby (by rw [<-wL.out];omega)];exact hf.out);clear hf;go_wp2_with fail;clear hb1;go_roundw
      case rel=>(go_light;exact ⟨i + 1,f,rfl,by go_num,hlt,HF.out,hbr⟩)
      case measure=>(go_light;simp [intOf] <;> omega)
   ·have HF:=zC (show K.qK x.nd x.l x.s x.r v m (tg:Int)=f by rw [K.aiP hm0,<-iR.out,show vn=i by omega];exact hf.out.symm);clear hf;go_wp2_with fail;go_ret;exact ⟨by rw [HF.out];rfl,hb⟩
end Go.Proofs.YtippdjmpkafifaaGreat
