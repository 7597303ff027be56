import Derived.Test.YtippdjmpkafifaaGreatCT15
import Derived.Test.YtippdjmpkafifaaGreatCT7
import Derived.Test.YtippdjmpkafifaaGreatCT9
import Derived.Deep.Light
set_option maxRecDepth 100000
set_option maxHeartbeats 64000000
namespace Go.Proofs.YtippdjmpkafifaaGreat
open Go.RowKit
theorem VO {α β:Type} {f g:α->Option β}:∀ (l:List α),(∀ x ∈ l,f x=g x)->l.filterMap f=l.filterMap g
 | [],_=>rfl
 | a :: l,h=>by rw [List.filterMap_cons,List.filterMap_cons,h a (List.mem_cons_self ..),VO l λx hx=>h x (List.mem_cons_of_mem _ hx)]
namespace K
def lH (nd:Int) (l:List Ro) (s:S) (r:List Q) (n:Nat):Tr × Int:=if n=0 then (Tr.zero,0) else gG nd l s r (part (iota r.length) n)
theorem Q4 {n:Nat} {v:List Int} (hn:n<=4) (hv:v.Pairwise (· < ·)) (hm:∀ x ∈ v,0<=x/\x < (n:Int)):part (iota n) (num v)=v/\num v < 2 ^ n:=by
 obtain ⟨m,h1,h2⟩:=KE (A.FZ hv (YR n) λx hx=>QI.2 (hm x hx));rw [Jz] at h1;have h3:=(ahH hn h1).1;rw [h2] at h3;rw [h3];exact ⟨h2,h1⟩
theorem aak:∀ (l:List Int),part l 0=[]
 | []=>rfl
 | i :: l=>by
  rw [part,if_neg (by rw [Nat.zero_testBit];decide),Nat.zero_div];exact aak l
theorem num_nil {n:Nat} {v:List Int} (hn:n<=4) (hv:v.Pairwise (· < ·)) (hm:∀ x ∈ v,0<=x/\x < (n:Int)):num v=0 ↔ v=[]:=by
 constructor
 ·intro h;have h1:=(Q4 hn hv hm).1;rw [h,aak] at h1;exact h1.symm
 ·intro h;rw [h];rfl
section
variable {nd : Int} {l : List Ro} {ss : List S} {r : List Q}
theorem UR {x:S} (hr:r.length<=4) {v:List Int} (hv:v.Pairwise (· < ·)) (hm:∀ y ∈ v,0<=y/\y < (r.length:Int)):lH nd l x r (num v)=if v.isEmpty=true then (Tr.zero,0) else gG nd l x r v:=by
 unfold lH;by_cases h:v=[]
 ·subst h;rw [if_pos (show num [] = 0 from rfl),if_pos (show ([]:List Int).isEmpty=true from rfl)]
 ·rw [if_neg (λe=>h ((num_nil hr hv hm).1 e)),if_neg (λe=>h (List.isEmpty_iff.1 e)),(Q4 hr hv hm).1]
def uY (nd:Int) (l:List Ro) (ss:List S) (r:List Q) (d:List Nat) (n:Nat):Bool:=(List.range n).all λs=>match ss[s]? with
 | none=>false
 | some x=>(lH nd l x r (num (A.share d s 0))).2 == 0
def FP (nd:Int) (l:List Ro) (ss:List S) (r:List Q) (d:List Nat) (s:Nat):Option (Nat × Tr):=if num (A.share d s 0)=0 then none else match ss[s]? with
 | none=>none
 | some x=>some (s,(lH nd l x r (num (A.share d s 0))).1)
def qH (nd:Int) (l:List Ro) (ss:List S) (r:List Q) (d:List Nat) (n:Nat):List (Nat × Tr):=(List.range n).filterMap (FP nd l ss r d)
theorem FX {d:List Nat} (hd:d.length=r.length) (s:Nat):∀ y ∈ A.share d s 0,0<=y/\y < (r.length:Int):=λy hy=>by
 have:=A.vg hy;omega
theorem abo (hr:r.length<=4) {d:List Nat} (hd:d.length=r.length):uY nd l ss r d ss.length=A.possible (bM nd l ss r) ss.length d:=by
 unfold uY A.possible;rw [Bool.eq_iff_iff,List.all_eq_true,List.all_eq_true];refine forall_congr' λs=>forall_congr' λhs=>?_;have hs':=List.mem_range.1 hs;rw [zF hs'];dsimp only;rw [UR hr (A.o_ d s 0) (FX hd s)];unfold bM;rw [zF hs'];dsimp only;cases (A.share d s 0).isEmpty
 ·rw [if_neg (by decide),Bool.false_or]
 ·rw [if_pos rfl];simp
theorem aiV (hr:r.length<=4) {d:List Nat} (hd:d.length=r.length) (hp:uY nd l ss r d ss.length=true):qH nd l ss r d ss.length=nR nd l ss r d:=by
 unfold qH nR;have key:∀ s ∈ List.range ss.length,FP nd l ss r d s=sJ nd l ss r d s:=λs hs=>by
  have hs':=List.mem_range.1 hs;have h1:=List.all_eq_true.1 hp s hs;unfold FP sJ;rw [zF hs'] at h1 ⊢;dsimp only at h1 ⊢;rw [UR hr (A.o_ d s 0) (FX hd s)] at h1 ⊢;by_cases he:A.share d s 0=[]
  ·have h2:(A.share d s 0).isEmpty=true:=List.isEmpty_iff.2 he;rw [if_pos ((num_nil hr (A.o_ d s 0) (FX hd s)).2 he),if_pos h2]
  ·have h2:¬ (A.share d s 0).isEmpty=true:=λe=>he (List.isEmpty_iff.1 e);rw [if_neg h2] at h1;rw [if_neg (λe=>he ((num_nil hr (A.o_ d s 0) (FX hd s)).1 e)),if_neg h2,if_neg h2];obtain ⟨g1,t,g2⟩:=Hu.1 (beq_iff_eq.1 h1);rw [Ht g1 g2,g2];rfl
 exact VO _ key
theorem aiR {d:List Nat} {s:Nat} {x:S} (hx:ss[s]? = some x):uY nd l ss r d (s + 1)=(uY nd l ss r d s && ((lH nd l x r (num (A.share d s 0))).2 == 0)):=by
 unfold uY;rw [List.range_succ,List.all_append,List.all_cons,List.all_nil,Bool.and_true,hx]
theorem aiW {d:List Nat} {s:Nat} (h:num (A.share d s 0)=0):qH nd l ss r d (s + 1)=qH nd l ss r d s:=ab1 (by unfold FP;rw [if_pos h])
theorem aiX {d:List Nat} {s:Nat} {x:S} (hx:ss[s]? = some x) (h:num (A.share d s 0) ≠ 0):qH nd l ss r d (s + 1)=qH nd l ss r d s ++ [(s,(lH nd l x r (num (A.share d s 0))).1)]:=ab2 (by unfold FP;rw [if_neg h,hx])
theorem ah0 (h:aH nd l ss r=0) (hr:r.length<=4) {j:Nat} {d:List Nat} (hj:(A.exts ss.length r.length)[j]? = some d) (hb:∀ e ∈ (A.exts ss.length r.length).take j,A.possible (bM nd l ss r) ss.length e=false) (hp:uY nd l ss r d ss.length=true) :
  plan nd l ss r=(qH nd l ss r d ss.length,0):=by
 have hd:=(A.o5.1 (zD hj)).1;have h1:=A.aen hj hb (by rw [<-abo hr hd];exact hp);unfold plan;rw [if_pos h,h1,aiV hr hd hp]
theorem aay (h:aH nd l ss r=0) (hb:∀ e ∈ A.exts ss.length r.length,A.possible (bM nd l ss r) ss.length e=false):plan nd l ss r=([],4):=by
 unfold plan;rw [if_pos h,A.aeo hb]
end
theorem aea {m k:Nat} (h:0 < m\/k=0):(A.exts m k)[0]? = some (List.replicate k 0):=by
 rcases h with h | h
 ·exact A.VJ h k
 ·subst h;rfl
theorem aeb (k:Nat):A.exts 0 (k + 1)=[]:=rfl
end K
theorem ry (w:World) (o:Obj):Below w.heap.size w (w.alloc o):=(Below.refl _ _).alloc (zG _) _
namespace K
theorem YS (n:Nat):iota (n + 1)=iota n ++ [(n:Int)]:=by unfold iota;rw [List.range_succ,List.map_append];rfl
end K
def yl (b:Bool):List Value:=[.bool b]
def Bools (w:World) (A:Option Addr) (n:Nat) (l:List Bool):Prop:=aQ yl 1 w A n l
structure BB where
 A:Option Addr
 n:Nat
 c:Nat
 ts:List TV
 O:Option Addr
 m:Nat
 k:Nat
 ok:List Bool
def BB.cells (y:BB):List Value:=[.slice y.A y.n y.c,.slice y.O y.m y.k]
def BB.Has (w:World) (y:BB):Prop:=dY w y.A y.n y.ts/\Bools w y.O y.m y.ok
def tV (y:BB) (g:Nat):Prop:=UT y.A y.n y.ts g\/Ft y.O y.m g
theorem BB.Has.below {w w':World} {y:BB} (h:y.Has w) (hb:Below w.heap.size w w'):y.Has w':=⟨h.1.below hb,aQ.below h.2 hb⟩
theorem BB.Has.sm {w w':World} {y:BB} (h:y.Has w) (hs:Sm w w' (tV y)):y.Has w':=⟨h.1.sm (hs.mono λ_ e=>.inl e),h.2.1,h.2.2.sm (hs.mono λ_ e=>.inr e)⟩
theorem BB.Has.lt {w:World} {y:BB} (h:y.Has w) {g:Nat} (hg:tV y g):g < w.heap.size:=by
 rcases hg with e | e
 ·exact h.1.jC e
 ·exact h.2.2.jC (by decide) e
theorem Ints.KC {w w':World} {A:Option Addr} {n:Nat} {l:List Int} (h:Ints w A n l) (hs:Sm w w' (Ft A n)):Ints w' A n l:=⟨h.1,h.2.sm hs⟩
theorem Kv {w w':World} {base:Nat} {e:TypeId} {size n:Nat} {v:Value} {xs:List Value} (h:w.ownsRow base e size v n xs) (hs:∀ g,v.ownBlock=some g->w'.heap[g]? = w.heap[g]?):w'.ownsRow base e size v n xs:=by
 obtain ⟨hl,h1 | ⟨g,cap,cur,hv,hbg,hh,r⟩⟩:=h
 ·exact ⟨hl,.inl h1⟩
 ·exact ⟨hl,.inr ⟨g,cap,cur,hv,hbg,(hs g (by rw [hv];rfl)).trans hh,r⟩⟩
structure qL (w:World) (B:Nat) (v:Value) (L:List BB):Prop where
 row:w.ownsRow B 111 2 v L.length (L.flatMap BB.cells)
 has:∀ y ∈ L,y.Has w
 off:∀ y ∈ L,∀ g,tV y g->B<=g/\v.ownBlock ≠ some g
theorem qL.nil (w:World) (B:Nat):qL w B (.slice none 0 0) []:=⟨World.ownsRow_nil _ _ _ _,λy h=>(by cases h),λy h=>(by cases h)⟩
theorem qL.below {w w':World} {B:Nat} {v:Value} {L:List BB} (h:qL w B v L) (hb:Below w.heap.size w w'):qL w' B v L:=⟨own_below h.row hb,λy hy=>(h.has y hy).below hb,h.off⟩
theorem qL.app {w w':World} {B:Nat} {v v':Value} {L:List BB} (h:qL w B v L) {y:BB} (hy:y.Has w) (ho:∀ g,tV y g->B<=g/\v.ownBlock ≠ some g) (hg:w.grownBy w' v.ownBlock) (ha:v'.ownBlock=v.ownBlock\/v'.ownBlock=some w.heap.size) (hr:w'.ownsRow B 111 2 v' (L.length + 1) ((L ++ [y]).flatMap BB.cells)):qL w' B v' (L ++ [y]):=by
 have key:∀ z:BB,z.Has w->(∀ g,tV z g->B<=g/\v.ownBlock ≠ some g)->z.Has w'/\∀ g,tV z g->B<=g/\v'.ownBlock ≠ some g:=λz hz qA =>
  ⟨hz.sm (Sm.grown hg λg e=>(qA g e).2),λg e=>⟨(qA g e).1,λe2=>by
   rcases ha with e3 | e3
   ·exact (qA g e).2 (e3.symm.trans e2)
   ·rw [e3] at e2;injection e2 with e2;have:=hz.lt e;omega⟩⟩
 refine ⟨by rw [List.length_append];exact hr,λz hz=>?_,λz hz=>?_⟩
 ·rcases List.mem_append.1 hz with hz | hz
  ·exact (key z (h.has z hz) (h.off z hz)).1
  ·rw [List.mem_singleton.1 hz];exact (key y hy ho).1
 ·rcases List.mem_append.1 hz with hz | hz
  ·exact (key z (h.has z hz) (h.off z hz)).2
  ·rw [List.mem_singleton.1 hz];exact (key y hy ho).2
structure lu (w:World) (B gb:Nat) (vT vO:Value) (ts:List TV) (ok:List Bool):Prop where
 blk:w.heap[gb]? = some (.cells #[vT,vO] 111 (0,0))
 hB:B<=gb
 rowT:w.ownsRow B 80 4 vT ts.length (ts.flatMap TV.cells)
 zS:w.ownsRow B 4 1 vO ok.length (ok.flatMap yl)
 ne:∀ g,vT.ownBlock=some g->vO.ownBlock ≠ some g
 nT:vT.ownBlock ≠ some gb
 nO:vO.ownBlock ≠ some gb
 ints:∀ y ∈ ts,Ints w y.A y.n y.t.stops/\Ints w y.A' y.n' y.t.times
 off:∀ y ∈ ts,∀ g,Ft y.A y.n g\/Ft y.A' y.n' g->B<=g/\vT.ownBlock ≠ some g/\vO.ownBlock ≠ some g/\g ≠ gb
theorem lu.below {w w':World} {B gb:Nat} {vT vO:Value} {ts:List TV} {ok:List Bool} (h:lu w B gb vT vO ts ok) (hb:Below w.heap.size w w'):lu w' B gb vT vO ts ok :=
 ⟨az hb h.blk,h.hB,own_below h.rowT hb,own_below h.zS hb,h.ne,h.nT,h.nO,λy hy=>⟨(h.ints y hy).1.below hb,(h.ints y hy).2.below hb⟩,h.off⟩
theorem BG {w:World} {A:Option Addr} {n:Nat} {l:List Int} (h:Ints w A n l) {g:Nat} (e:Ft A n g):g < w.heap.size:=h.2.jC (by decide) e
theorem lu.acP {w w':World} {B gb:Nat} {vT vO pq:Value} {ts:List TV} {ok:List Bool} (h:lu w B gb vT vO ts ok) {y:TV} (hy:Ints w y.A y.n y.t.stops/\Ints w y.A' y.n' y.t.times)
  (ho:∀ g,Ft y.A y.n g\/Ft y.A' y.n' g->B<=g/\vT.ownBlock ≠ some g/\vO.ownBlock ≠ some g/\g ≠ gb) (hg:w.grownBy w' vT.ownBlock) (ha:pq.ownBlock=vT.ownBlock\/pq.ownBlock=some w.heap.size)
  (hr:w'.ownsRow B 80 4 pq (ts.length + 1) ((ts ++ [y]).flatMap TV.cells)):lu (w'.setCell ⟨gb,0,none⟩ pq) B gb pq vO (ts ++ [y]) ok:=by
 have hgl:=lt_of_block h.blk;have K:∀ g,g < w.heap.size->vT.ownBlock ≠ some g->g ≠ gb->(w'.setCell ⟨gb,0,none⟩ pq).heap[g]? = w.heap[g]?:=λg hl h1 h2=>(Below.heap_setCell w' ⟨gb,0,none⟩ pq g h2).trans (hg.block g hl λe=>h1 e.symm);have hbk:w'.heap[gb]? = some (.cells #[vT,vO] 111 (0,0)):=(hg.block gb hgl λe=>h.nT e.symm).trans h.blk;have hv:∀ g,pq.ownBlock=some g->vT.ownBlock=some g\/g=w.heap.size:=λg e=>ha.elim (λe3=>.inl (e3.symm.trans e)) (λe3=>.inr (by rw [e3] at e;injection e with e;exact e.symm));have hin:=bG h.zS
 have key:∀ z:TV,(Ints w z.A z.n z.t.stops/\Ints w z.A' z.n' z.t.times)->(∀ g,Ft z.A z.n g\/Ft z.A' z.n' g->B<=g/\vT.ownBlock ≠ some g/\vO.ownBlock ≠ some g/\g ≠ gb) ->
   (Ints (w'.setCell ⟨gb,0,none⟩ pq) z.A z.n z.t.stops/\Ints (w'.setCell ⟨gb,0,none⟩ pq) z.A' z.n' z.t.times)/\∀ g,Ft z.A z.n g\/Ft z.A' z.n' g->B<=g/\pq.ownBlock ≠ some g/\vO.ownBlock ≠ some g/\g ≠ gb:=λz hz qA=>by
  refine ⟨⟨hz.1.KC λg e hl=>K g hl (qA g (.inl e)).2.1 (qA g (.inl e)).2.2.2,hz.2.KC λg e hl=>K g hl (qA g (.inr e)).2.1 (qA g (.inr e)).2.2.2⟩,λg e=>⟨(qA g e).1,λe2=>?_,(qA g e).2.2⟩⟩;rcases hv g e2 with e3 | e3
  ·exact (qA g e).2.1 e3
  ·have:g < w.heap.size:=e.elim (λe=>BG hz.1 e) (λe=>BG hz.2 e);omega
 refine ⟨bg hbk 0 _,h.hB,?_,Kv h.zS λg e=>K g (hin g e).2 (λe2=>h.ne g e2 e) (λe2=>h.nO (by rw [<-e2];exact e)),λg e e2=>?_,λe=>?_,h.nO,λz hz=>?_,λz hz=>?_⟩
 ·rw [List.length_append];refine Kv hr λg e=>Below.heap_setCell w' ⟨gb,0,none⟩ pq g λe2=>?_;rcases hv g e with e3 | e3
  ·exact h.nT (by rw [e3,e2])
  ·rw [e2] at e3;dsimp only at e3;omega
 ·rcases hv g e with e3 | e3
  ·exact h.ne g e3 e2
  ·have:=(hin g e2).2;omega
 ·rcases hv gb e with e3 | e3
  ·exact h.nT e3
  ·omega
 ·rcases List.mem_append.1 hz with hz | hz
  ·exact (key z (h.ints z hz) (h.off z hz)).1
  ·rw [List.mem_singleton.1 hz];exact (key y hy ho).1
 ·rcases List.mem_append.1 hz with hz | hz
  ·exact (key z (h.ints z hz) (h.off z hz)).2
  ·rw [List.mem_singleton.1 hz];exact (key y hy ho).2
theorem lu.acO {w w':World} {B gb:Nat} {vT vO vC:Value} {ts:List TV} {ok:List Bool} (h:lu w B gb vT vO ts ok) {b:Bool} (hg:w.grownBy w' vO.ownBlock) (ha:vC.ownBlock=vO.ownBlock\/vC.ownBlock=some w.heap.size)
  (hr:w'.ownsRow B 4 1 vC (ok.length + 1) (ok.flatMap yl ++ yl b)):lu (w'.setCell ⟨gb,1,none⟩ vC) B gb vT vC ts (ok ++ [b]):=by
 have hgl:=lt_of_block h.blk;have K:∀ g,g < w.heap.size->vO.ownBlock ≠ some g->g ≠ gb->(w'.setCell ⟨gb,1,none⟩ vC).heap[g]? = w.heap[g]?:=λg hl h1 h2=>(Below.heap_setCell w' ⟨gb,1,none⟩ vC g h2).trans (hg.block g hl λe=>h1 e.symm);have hbk:w'.heap[gb]? = some (.cells #[vT,vO] 111 (0,0)):=(hg.block gb hgl λe=>h.nO e.symm).trans h.blk;have hv:∀ g,vC.ownBlock=some g->vO.ownBlock=some g\/g=w.heap.size:=λg e=>ha.elim (λe3=>.inl (e3.symm.trans e)) (λe3=>.inr (by rw [e3] at e;injection e with e;exact e.symm));have hin:=bG h.rowT;refine ⟨bg hbk 1 _,h.hB,Kv h.rowT λg e=>K g (hin g e).2 (h.ne g e) (λe2=>h.nT (by rw [<-e2];exact e)),?_,λg e e2=>?_,h.nT,λe=>?_,λz hz=>⟨?_,?_⟩,λz hz g e=>?_⟩
 ·rw [List.length_append,List.flatMap_append,List.flatMap_singleton];refine Kv hr λg e=>Below.heap_setCell w' ⟨gb,1,none⟩ vC g λe2=>?_;rcases hv g e with e3 | e3
  ·exact h.nO (by rw [e3,e2])
  ·rw [e2] at e3;dsimp only at e3;omega
 ·rcases hv g e2 with e3 | e3
  ·exact h.ne g e e3
  ·have:=(hin g e).2;omega
 ·rcases hv gb e with e3 | e3
  ·exact h.nO e3
  ·omega
 ·exact (h.ints z hz).1.KC λg e hl=>K g hl (h.off z hz g (.inl e)).2.2.1 (h.off z hz g (.inl e)).2.2.2
 ·exact (h.ints z hz).2.KC λg e hl=>K g hl (h.off z hz g (.inr e)).2.2.1 (h.off z hz g (.inr e)).2.2.2
 ·obtain ⟨h1,h2,h3,h4⟩:=h.off z hz g e;refine ⟨h1,h2,λe2=>?_,h4⟩;rcases hv g e2 with e3 | e3
  ·exact h3 e3
  ·have:g < w.heap.size:=e.elim (λe=>BG (h.ints z hz).1 e) (λe=>BG (h.ints z hz).2 e);omega
theorem lu.done {w:World} {B gb:Nat} {vT vO:Value} {ts:List TV} {ok:List Bool} (h:lu w B gb vT vO ts ok):∃ TA tc OA oc,vT=.slice TA ts.length tc/\vO=.slice OA ok.length oc/\BB.Has w ⟨TA,ts.length,tc,ts,OA,ok.length,oc,ok⟩/\∀ g,tV ⟨TA,ts.length,tc,ts,OA,ok.length,oc,ok⟩ g->B<=g:=by
 obtain ⟨TA,tc,e1,hT,fT⟩:=dh h.rowT;obtain ⟨OA,oc,e2,hO,fO⟩:=dh h.zS;refine ⟨TA,tc,OA,oc,e1,e2,⟨⟨⟨rfl,hT⟩,h.ints⟩,rfl,hO⟩,?_⟩;rintro g ((⟨h0,ad,e,rfl⟩ | ⟨y,hy,e⟩) | ⟨h0,ad,e,rfl⟩)
 ·exact (fT _ (by rw [e1];dsimp only at e;rw [e];rfl)).1
 ·exact (h.off y hy g e).1
 ·exact (fO _ (by rw [e2];dsimp only at e;rw [e];rfl)).1
def mO (nd:Int) (l:List Ro) (s:S) (r:List Q) (k N:Nat) (ts:List TV) (ok:List Bool):Prop :=
 ts.map TV.pr=(List.range N).map (λi=>((if i=0 then 0 else (k:Int)),(K.lH nd l s r i).1))/\ok=(List.range N).map λi=>(K.lH nd l s r i).2 == 0
theorem mO.snoc {nd:Int} {l:List Ro} {s:S} {r:List Q} {k N:Nat} {ts:List TV} {ok:List Bool} (h:mO nd l s r k N ts ok) (h0:N ≠ 0) {y:TV} {b:Bool} (hy:y.pr=((k:Int),(K.lH nd l s r N).1)) (hb:b=((K.lH nd l s r N).2 == 0)):mO nd l s r k (N + 1) (ts ++ [y]) (ok ++ [b]):=by
 constructor
 ·rw [List.map_append,h.1,List.range_succ,List.map_append,List.map_singleton,List.map_singleton,if_neg h0,hy]
 ·rw [h.2,List.range_succ,List.map_append,List.map_singleton,hb]
theorem mO.one (nd:Int) (l:List Ro) (s:S) (r:List Q) (k:Nat):mO nd l s r k 1 [⟨0,none,0,0,none,0,0,K.Tr.zero⟩] [true]:=⟨rfl,rfl⟩
theorem mO.len {nd:Int} {l:List Ro} {s:S} {r:List Q} {k N:Nat} {ts:List TV} {ok:List Bool} (h:mO nd l s r k N ts ok):ts.length=N/\ok.length=N:=by
 have h1:=congrArg List.length h.1;have h2:=congrArg List.length h.2;rw [List.length_map,List.length_map,List.length_range] at h1;rw [List.length_map,List.length_range] at h2;exact ⟨h1,h2⟩
def Cj (x:Cs) (N:Nat) (L:List BB):Prop:=∀ (k:Nat) (y:BB) (s:S),L[k]? = some y->x.ss[k]? = some s->mO x.nd x.l s x.r k N y.ts y.ok
theorem Cj.snoc {x:Cs} {N:Nat} {L:List BB} (h:Cj x N L) {y:BB} {s:S} (hs:x.ss[L.length]? = some s) (hy:mO x.nd x.l s x.r L.length N y.ts y.ok):Cj x N (L ++ [y]):=λk z s' hz hs'=>by
 by_cases hk:k < L.length
 ·rw [List.getElem?_append_left hk] at hz;exact h k z s' hz hs'
 ·rw [List.getElem?_append_right (by omega)] at hz;have hk2:k=L.length:=by
   have:=(zE.1 hz).1;rw [List.length_singleton] at this;omega
  subst hk2;rw [Nat.sub_self] at hz;injection hz with hz;rw [hs] at hs';injection hs' with hs';subst hz hs';exact hy
def acy (x:Cs) (w w':World) (e:Ending):Prop :=
 (∃ A n c L,e=.returned (.slice A n c)/\aQ BB.cells 2 w' A n L/\n=x.sn/\(∀ y ∈ L,y.Has w')/\(∀ y ∈ L,∀ g,tV y g->w.heap.size<=g)/\Cj x (2 ^ x.r.length) L)/\Below w.heap.size w w'
namespace K
def jT (l:List Int):Nat->Option Nat
 | 0=>none
 | j + 1=>if (l[j + 1]?).getD 0 < (l[j]?).getD 0 then jT l j else some j
def jU (l:List Int) (x:Int):Nat->Nat
 | 0=>0
 | k + 1=>if (l[k]?).getD 0 < x then jU l x k else k
def turned (l:List Int) (i k:Nat):List Int :=
 (((l.set i ((l[k]?).getD 0)).set k ((l[i]?).getD 0)).take (i + 1)) ++ (((l.set i ((l[k]?).getD 0)).set k ((l[i]?).getD 0)).drop (i + 1)).reverse
def jG (l:List Int):Option (List Int):=match jT l (l.length - 1) with
 | none=>none
 | some i=>some (turned l i (jU l ((l[i]?).getD 0) l.length))
def orders:Nat->List Int->List (List Int)
 | 0,_=>[]
 | f + 1,l=>l :: match jG l with | none=>[] | some l'=>orders f l'
def places (n:Nat):List Int:=(List.range n).map λ(i:Nat)=>(i:Int)
def grows:List (List Int)->Bool
 | []=>true
 | a :: l=>l.all (λb=>jF a b) && grows l
theorem ahv:∀ n:Fin 5,grows (orders 25 (places n.val))=true:=by decide +kernel
theorem ahw:∀ n:Fin 5,(orders 25 (places n.val)).length<=24:=by decide +kernel
theorem ahp:∀ a:Fin 1,[(a.val:Int)] ∈ orders 25 (places 1):=by decide +kernel
theorem ahq:∀ a b:Fin 2,[a,b].Nodup->[(a.val:Int),b.val] ∈ orders 25 (places 2):=by decide +kernel
theorem ahr:∀ a b c:Fin 3,[a,b,c].Nodup->[(a.val:Int),b.val,c.val] ∈ orders 25 (places 3):=by decide +kernel
theorem ahs:∀ a b c d:Fin 4,[a,b,c,d].Nodup->[(a.val:Int),b.val,c.val,d.val] ∈ orders 25 (places 4):=by decide +kernel
theorem QU:∀ n:Fin 5,∀ o ∈ orders 25 (places n.val),o.length=n.val/\o.Nodup/\∀ x ∈ o,0<=x/\x < n.val:=by decide +kernel
theorem ZJ {l:List Int}:∀ {j i:Nat},jT l j=some i->i < j
 | 0,i,h=>by cases h
 | j + 1,i,h=>by
  rw [jT] at h;split at h
  ·have:=ZJ h;omega
  ·injection h with h;omega
theorem ZL {l:List Int} {x:Int}:∀ {k:Nat},0 < k->jU l x k < k
 | 0,h=>by omega
 | k + 1,_=>by
  rw [jU];split
  ·cases k with
   | zero=>simp [jU]
   | succ k=>have:=ZL (l:=l) (x:=x) (k:=k + 1) (by omega);omega
  ·omega
section
variable {f : Int -> Int} {l : List Int}
theorem zy {i:Nat} (h:i < l.length):(((l.map f)[i]?).getD 0)=f ((l[i]?).getD 0):=by
 rw [List.getElem?_map,zF h];rfl
theorem at_mem {i:Nat} (h:i < l.length):(l[i]?).getD 0 ∈ l:=by
 rw [zF h];exact List.getElem_mem h
def f_ (f:Int->Int) (l:List Int):Prop:=∀ a ∈ l,∀ b ∈ l,(f a < f b ↔ a < b)
theorem ZK (hf:f_ f l):∀ j,(j=0\/j < l.length)->jT (l.map f) j=jT l j
 | 0,_=>rfl
 | j + 1,h=>by
  have h1:j + 1 < l.length:=by omega
  rw [jT,jT,zy h1,zy (show j < l.length by omega),ZK hf j (by omega)];simp only [hf _ (at_mem h1) _ (at_mem (show j < l.length by omega))]
theorem ZM (hf:f_ f l) {x:Int} (hx:x ∈ l):∀ k,k<=l.length->jU (l.map f) (f x) k=jU l x k
 | 0,_=>rfl
 | k + 1,h=>by
  rw [jU,jU,zy (show k < l.length by omega),ZM hf hx k (by omega)];simp only [hf _ (at_mem (show k < l.length by omega)) _ hx]
theorem ajU {i k:Nat} (hi:i < l.length) (hk:k < l.length):turned (l.map f) i k=(turned l i k).map f:=by
 unfold turned;rw [zy hi,zy hk];simp only [List.map_append,List.map_take,List.map_reverse,List.map_drop,List.map_set]
theorem ajV {i k:Nat} (hi:i < l.length) (hk:k < l.length):∀ x ∈ turned l i k,x ∈ l:=by
 intro x hx;have h1:x ∈ (l.set i ((l[k]?).getD 0)).set k ((l[i]?).getD 0):=by
  unfold turned at hx;rcases List.mem_append.1 hx with h | h
  ·exact List.mem_of_mem_take h
  ·exact List.mem_of_mem_drop (List.mem_reverse.1 h)
 rcases List.mem_or_eq_of_mem_set h1 with h | h
 ·rcases List.mem_or_eq_of_mem_set h with h | h
  ·exact h
  ·rw [h];exact at_mem hk
 ·rw [h];exact at_mem hi
theorem ag4 (hf:f_ f l):jG (l.map f)=(jG l).map (List.map f)/\∀ l',jG l=some l'->∀ x ∈ l',x ∈ l:=by
 unfold jG;rw [List.length_map,ZK hf _ (by omega)];cases h:jT l (l.length - 1) with
 | none=>exact ⟨rfl,λ_ h=>by cases h⟩
 | some i =>
  have hi:i < l.length:=by have:=ZJ h;omega
  have hk:jU l ((l[i]?).getD 0) l.length < l.length:=ZL (by omega);dsimp only;rw [zy hi,ZM hf (at_mem hi) _ (zG _),ajU hi hk];refine ⟨rfl,λl' h=>?_⟩;injection h with h;subst h;exact ajV hi hk
end
theorem Z4 {f:Int->Int}:∀ (n:Nat) (l:List Int),f_ f l->orders n (l.map f)=(orders n l).map (List.map f)
 | 0,_,_=>rfl
 | n + 1,l,hf=>by
  obtain ⟨h1,h2⟩:=ag4 hf;rw [orders,orders,h1];cases h:jG l with
  | none=>rfl
  | some l' =>
   have hf':f_ f l':=λa ha b hb=>hf a (h2 l' h a ha) b (h2 l' h b hb);simp only [Option.map_some,List.map_cons];rw [Z4 n l' hf']
theorem ahT (v:List Int):(places v.length).map (λi=>(v[i.toNat]?).getD 0)=v:=by
 apply List.ext_getElem?;intro k;unfold places;rw [List.map_map,List.getElem?_map];by_cases h:k < v.length
 ·rw [List.getElem?_range h];simp [h]
 ·rw [List.getElem?_eq_none (by simpa using h),List.getElem?_eq_none (by omega)];rfl
end K
namespace K
theorem ahQ {o v:List Int} (h1:o.Nodup) (h2:v.Nodup) (h3:∀ x ∈ o,x ∈ v) (h4:o.length=v.length):o.Perm v:=by
 have h5:(v.filter λx=>decide (x ∈ o)).Perm o:=by
  refine (List.perm_ext_iff_of_nodup (h2.filter _) h1).2 λx=>?_;rw [List.mem_filter];exact ⟨λh=>of_decide_eq_true h.2,λh=>⟨h3 x h,zH h⟩⟩
 have h6:v.filter (λx=>decide (x ∈ o))=v:=List.filter_eq_self.2 (List.length_filter_eq_length_iff.1 (by rw [h5.length_eq,h4]));rw [h6] at h5;exact h5.symm
theorem aho {n:Nat} (hn:n<=4) {σ:List Int} (hl:σ.length=n) (hd:σ.Nodup) (hr:∀ x ∈ σ,0<=x/\x < (n:Int)):σ ∈ orders 25 (places n):=by
 have hz:∀ x:Int,0<=x->x < (n:Int)->∃ a:Fin n,(a.val:Int)=x:=λx h0 h1=>⟨⟨x.toNat,by omega⟩,by show ((x.toNat:Nat):Int)=x;omega⟩;match n,hn,σ,hl with
 | 0,_,[],_=>decide
 | 1,_,[x],_ =>
  obtain ⟨a,rfl⟩:=hz x (hr x (by simp)).1 (hr x (by simp)).2;exact ahp a
 | 2,_,[x,y],_ =>
  obtain ⟨a,rfl⟩:=hz x (hr x (by simp)).1 (hr x (by simp)).2;obtain ⟨b,rfl⟩:=hz y (hr y (by simp)).1 (hr y (by simp)).2;refine ahq a b ?_;simp only [List.nodup_cons,List.mem_cons,List.not_mem_nil,or_false,not_false_eq_true,List.nodup_nil,and_true] at hd ⊢;exact λh=>hd (by rw [h])
 | 3,_,[x,y,z],_ =>
  obtain ⟨a,rfl⟩:=hz x (hr x (by simp)).1 (hr x (by simp)).2;obtain ⟨b,rfl⟩:=hz y (hr y (by simp)).1 (hr y (by simp)).2;obtain ⟨c,rfl⟩:=hz z (hr z (by simp)).1 (hr z (by simp)).2;refine ahr a b c ?_;simp only [List.nodup_cons,List.mem_cons,List.not_mem_nil,or_false,not_or,not_false_eq_true,List.nodup_nil,and_true] at hd ⊢;exact ⟨⟨λh=>hd.1.1 (by rw [h]),λh=>hd.1.2 (by rw [h])⟩,λh=>hd.2 (by rw [h])⟩
 | 4,_,[x,y,z,u],_ =>
  obtain ⟨a,rfl⟩:=hz x (hr x (by simp)).1 (hr x (by simp)).2;obtain ⟨b,rfl⟩:=hz y (hr y (by simp)).1 (hr y (by simp)).2;obtain ⟨c,rfl⟩:=hz z (hr z (by simp)).1 (hr z (by simp)).2;obtain ⟨d,rfl⟩:=hz u (hr u (by simp)).1 (hr u (by simp)).2;refine ahs a b c d ?_;simp only [List.nodup_cons,List.mem_cons,List.not_mem_nil,or_false,not_or,not_false_eq_true,List.nodup_nil,and_true] at hd ⊢;exact ⟨⟨λh=>hd.1.1 (by rw [h]),λh=>hd.1.2.1 (by rw [h]),λh=>hd.1.2.2 (by rw [h])⟩,⟨λh=>hd.2.1.1 (by rw [h]),λh=>hd.2.1.2 (by rw [h])⟩,λh=>hd.2.2 (by rw [h])⟩
theorem V3:∀ {l:List (List Int)},grows l=true->l.Pairwise λa b=>jF a b=true
 | [],_=>.nil
 | a :: l,h=>by
  simp only [grows,Bool.and_eq_true,List.all_eq_true] at h;exact .cons h.1 (V3 h.2)
theorem Zq {f:Int->Int}:∀ {a b:List Int},(∀ x ∈ a,∀ y ∈ b,(f x < f y ↔ x < y)/\(f x=f y ↔ x=y))->jF (a.map f) (b.map f)=jF a b
 | [],_,_=>rfl
 | _ :: _,[],_=>rfl
 | x :: a,y :: b,h=>by
  obtain ⟨h1,h2⟩:=h x (List.mem_cons_self ..) y (List.mem_cons_self ..);simp only [List.map_cons,jF,h1,h2];rw [Zq λp hp q hq=>h p (List.mem_cons_of_mem _ hp) q (List.mem_cons_of_mem _ hq)]
theorem Zo:∀ {a b:List Int},a.length=b.length->jF a b=true->jF b a=true->a=b
 | [],[],_,_,_=>rfl
 | x :: a,y :: b,hl,h1,h2=>by
  unfold jF at h1 h2;by_cases hxy:x=y
  ·rw [if_pos hxy] at h1;rw [if_pos hxy.symm] at h2;rw [hxy,Zo (by simpa using hl) h1 h2]
  ·rw [if_neg hxy] at h1;rw [if_neg (Ne.symm hxy)] at h2;have h1:=of_decide_eq_true h1;have h2:=of_decide_eq_true h2;omega
section
variable {v : List Int} (hs : v.Pairwise (· < ·)) (h4 : v.length <= 4)
def elemAt (v:List Int) (i:Int):Int:=(v[i.toNat]?).getD 0
theorem elemAt_lt (hs:v.Pairwise (· < ·)) {i j:Int} (hi:0<=i/\i < (v.length:Int)) (hj:0<=j/\j < (v.length:Int)):(elemAt v i < elemAt v j ↔ i < j)/\(elemAt v i=elemAt v j ↔ i=j):=by
 have key:∀ a b:Int,0<=a->a < b->b < (v.length:Int)->elemAt v a < elemAt v b:=λa b h0 h1 h2=>by
  unfold elemAt;rw [zF (show a.toNat < v.length by omega),zF (show b.toNat < v.length by omega)];exact (List.pairwise_iff_getElem.1 hs) _ _ _ _ (by omega)
 rcases Int.lt_trichotomy i j with h | h | h
 ·have:=key i j hi.1 h hj.2;exact ⟨⟨λ_=>h,λ_=>this⟩,⟨λe=>by omega,λe=>by omega⟩⟩
 ·subst h;exact ⟨⟨λh=>absurd h (Int.lt_irrefl _),λh=>absurd h (Int.lt_irrefl _)⟩,⟨λ_=>rfl,λ_=>rfl⟩⟩
 ·have:=key j i hj.1 h hi.2;exact ⟨⟨λ_=>by omega,λ_=>by omega⟩,⟨λe=>by omega,λe=>by omega⟩⟩
theorem aav {n:Nat} {x:Int} (h:x ∈ places n):0<=x/\x < (n:Int):=by
 unfold places at h;obtain ⟨i,hi,rfl⟩:=List.mem_map.1 h;have:=List.mem_range.1 hi;omega
include hs in
theorem QV:orders 25 v=(orders 25 (places v.length)).map (List.map (elemAt v)):=by
 have h1:=Z4 (f:=elemAt v) 25 (places v.length) λa ha b hb=>(elemAt_lt hs (aav ha) (aav hb)).1;have h2:(places v.length).map (elemAt v)=v:=ahT v;rw [h2] at h1;exact h1
include hs h4 in
theorem ahu:(orders 25 v).Pairwise λa b=>jF a b=true:=by
 rw [QV hs];have h1:=V3 (ahv ⟨v.length,by omega⟩);refine List.pairwise_map.2 ?_;refine List.Pairwise.imp_of_mem (λ{a b} ha hb hab=>?_) h1;obtain ⟨-,-,ra⟩:=QU ⟨v.length,by omega⟩ a ha;obtain ⟨-,-,rb⟩:=QU ⟨v.length,by omega⟩ b hb;rw [Zq λx hx y hy=>elemAt_lt hs (ra x hx) (rb y hy)];exact hab
include hs h4 in
theorem QJ {o:List Int}:o ∈ orders 25 v ↔ o.Perm v:=by
 have hnd:v.Nodup:=hs.imp λh=>Int.ne_of_lt h;rw [QV hs,List.mem_map];constructor
 ·rintro ⟨σ,hσ,rfl⟩;obtain ⟨r1,r2,r3⟩:=QU ⟨v.length,by omega⟩ σ hσ;refine ahQ ?_ hnd ?_ (by rw [List.length_map];exact r1)
  ·refine List.pairwise_map.2 (List.Pairwise.imp_of_mem (λ{a b} ha hb hab he=>hab ?_) r2);exact (elemAt_lt hs (r3 a ha) (r3 b hb)).2.1 he
  ·intro x hx;obtain ⟨i,hi,rfl⟩:=List.mem_map.1 hx;have:=r3 i hi;unfold elemAt
   have h9:i.toNat < v.length:=by have h8:(i.toNat:Int)=i:=by omega
                                  have h7:i < (v.length:Int):=this.2;omega
   rw [zF h9];exact List.getElem_mem h9
 ·intro hp;refine ⟨o.map (place v),aho h4 (by rw [List.length_map,hp.length_eq]) ?_ ?_,?_⟩
  ·refine List.pairwise_map.2 (List.Pairwise.imp_of_mem (λ{a b} ha hb hab he=>hab ?_) (hp.nodup_iff.2 hnd));obtain ⟨i,hi⟩:=List.mem_iff_getElem?.1 (hp.mem_iff.1 ha);obtain ⟨j,hj⟩:=List.mem_iff_getElem?.1 (hp.mem_iff.1 hb);rw [JX hnd hi,JX hnd hj] at he;have:i=j:=by omega
   subst this;rw [hi] at hj;injection hj
  ·intro x hx;obtain ⟨y,hy,rfl⟩:=List.mem_map.1 hx;obtain ⟨i,hi⟩:=List.mem_iff_getElem?.1 (hp.mem_iff.1 hy);have:=(zE.1 hi).1;rw [JX hnd hi];omega
  ·rw [List.map_map];conv=>rhs;rw [<-List.map_id o]
   refine List.map_congr_left λy hy=>?_;obtain ⟨i,hi⟩:=List.mem_iff_getElem?.1 (hp.mem_iff.1 hy);show elemAt v (place v y)=y;rw [JX hnd hi];unfold elemAt;rw [Int.toNat_natCast,hi];rfl
end
end K
namespace K
section
variable {nd : Int} {l : List Ro} {s : S} {r : List Q} {v : List Int}
def pick (nd:Int) (l:List Ro) (s:S) (r:List Q):List (List Int)->Option Tr->Option Tr
 | [],b=>b
 | o :: os,b=>pick nd l s r os (if (run nd l s r o).e=0/\better b (run nd l s r o).aI.end_=true then some (run nd l s r o).aI else b)
theorem Rw {o:List Int} (h:(run nd l s r o).e=0):(run nd l s r o).aI.stops=o:=by rw [(uZ h).2.2.2]
theorem Q7:∀ (L:List (List Int)) (b:Option Tr),L.Pairwise (λa b=>jF a b=true) ->
  (∀ t,pick nd l s r L b=some t->b=some t\/∃ o ∈ L,(run nd l s r o).e=0/\t=(run nd l s r o).aI) /\
  (∀ b0,b=some b0->∃ t,pick nd l s r L b=some t/\(t=b0\/t.end_ < b0.end_)) /\
  (∀ o ∈ L,(run nd l s r o).e=0->∃ t,pick nd l s r L b=some t/\t.end_<=(run nd l s r o).aI.end_/\(t.end_=(run nd l s r o).aI.end_->b=some t\/jF t.stops o=true))
 | [],b,_=>⟨λt h=>.inl h,λb0 h=>⟨b0,h,.inl rfl⟩,λo h=>by cases h⟩
 | a :: L,b,hp=>by
  have hp1:=(List.pairwise_cons.1 hp).1;have hp2:=(List.pairwise_cons.1 hp).2;unfold pick;by_cases hc:(run nd l s r a).e=0/\better b (run nd l s r a).aI.end_=true
  ·rw [if_pos hc];obtain ⟨i1,i2,i3⟩:=Q7 L (some (run nd l s r a).aI) hp2;obtain ⟨t0,ht0,hle0⟩:=i2 _ rfl;refine ⟨λt h=>?_,λb0 hb=>?_,λo ho he=>?_⟩
   ·rcases i1 t h with h | ⟨o,ho,h1,h2⟩
    ·injection h with h;exact .inr ⟨a,List.mem_cons_self ..,hc.1,h.symm⟩
    ·exact .inr ⟨o,List.mem_cons_of_mem _ ho,h1,h2⟩
   ·subst hb;have hlt:(run nd l s r a).aI.end_ < b0.end_:=of_decide_eq_true hc.2;refine ⟨t0,ht0,.inr ?_⟩;rcases hle0 with rfl | h
    ·exact hlt
    ·omega
   ·rcases List.mem_cons.1 ho with rfl | ho
    ·refine ⟨t0,ht0,?_,λheq=>.inr ?_⟩
     ·rcases hle0 with rfl | h
      ·exact Int.le_refl _
      ·omega
     ·rcases hle0 with rfl | h
      ·rw [Rw hc.1];exact QD _
      ·omega
    ·obtain ⟨t,ht,h1,h2⟩:=i3 o ho he;refine ⟨t,ht,h1,λheq=>?_⟩;rcases h2 heq with h | h
     ·injection h with h;refine .inr ?_;rw [<-h,Rw hc.1];exact hp1 o ho
     ·exact .inr h
  ·rw [if_neg hc];obtain ⟨i1,i2,i3⟩:=Q7 L b hp2;refine ⟨λt h=>?_,i2,λo ho he=>?_⟩
   ·rcases i1 t h with h | ⟨o,ho,h1,h2⟩
    ·exact .inl h
    ·exact .inr ⟨o,List.mem_cons_of_mem _ ho,h1,h2⟩
   ·rcases List.mem_cons.1 ho with rfl | ho
    ·cases hb:b with
     | none=>exact absurd ⟨he,by rw [hb];rfl⟩ hc
     | some b0 =>
      obtain ⟨t,ht,h1⟩:=i2 b0 hb;have hge:¬ (run nd l s r o).aI.end_ < b0.end_:=λh=>hc ⟨he,by rw [hb];exact zH h⟩;rw [hb] at ht;refine ⟨t,ht,?_,λheq=>.inl ?_⟩
      ·rcases h1 with rfl | h1 <;> omega
      ·rcases h1 with rfl | h1
       ·rfl
       ·omega
    ·exact i3 o ho he
theorem ahR (hok:aP nd l s r v=true) (h4:v.length<=4):pick nd l s r (orders 25 v) none=best nd l s r v:=by
 have hs:=Rz hok;obtain ⟨i1,-,i3⟩:=Q7 (nd:=nd) (l:=l) (s:=s) (r:=r) (orders 25 v) none (ahu hs h4);cases hb:best nd l s r v with
 | none =>
  cases hp:pick nd l s r (orders 25 v) none with
  | none=>rfl
  | some t =>
   rcases i1 t hp with h | ⟨o,ho,h1,-⟩
   ·cases h
   ·obtain ⟨t',ht',-⟩:=U1 hok ((QJ hs h4).1 ho) h1;rw [hb] at ht';cases ht'
 | some t =>
  obtain ⟨g1,g2,-⟩:=U2 hok hb;obtain ⟨t',h1,h2,h3⟩:=i3 t.stops ((QJ hs h4).2 g1) (by rw [g2]);rw [g2] at h2 h3;rcases i1 t' h1 with h | ⟨o,ho,e1,e2⟩
  ·cases h
  ·have ho2:=(QJ hs h4).1 ho;obtain ⟨t2,k1,k2,k3⟩:=U1 hok ho2 e1;rw [hb] at k1;injection k1 with k1;subst k1;rw [<-e2] at k2 k3;have h2:t'.end_<=t.end_:=h2;have heq:t'.end_=t.end_:=by omega
   have hst:t'.stops=o:=by rw [e2];exact Rw e1
   have l1:jF t'.stops t.stops=true:=by
    rcases h3 heq with h | h
    ·cases h
    ·exact h
   have l2:=k3 heq.symm;have:o=t.stops:=Zo (by rw [ho2.length_eq,g1.length_eq]) (by rw [<-hst];exact l1) l2;rw [h1,e2,this,g2]
end
end K
namespace K
theorem aha {y1 t1 y2 t2:Int} (f:Int) (g1:-1<=y1) (g2:-1<=t1) (g3:-1<=y2) (g4:-1<=t2):dJ y1 (dJ y2 f t2) t1=dJ y2 (dJ y1 f t1) t2:=by
 unfold dJ;by_cases h1:y1=-1 <;> by_cases h2:y2=-1 <;> by_cases h3:t1=-1 <;> by_cases h4:t2=-1 <;> simp only [h1,h2,h3,h4,ne_eq,not_true_eq_false,not_false_eq_true,false_and,true_and,if_false,and_false] <;> (repeat' split) <;> omega
theorem VQ {nd:Int} {l:List Ro} {wt tn y t:Int} (hy:-1<=y) (ht:-1<=t):∀ (z:List (Int × Int)) (f:Int),(∀ p ∈ z,-1<=p.2)->firsts nd l wt tn z (dJ y f t)=dJ y (firsts nd l wt tn z f) t
 | [],_,_=>rfl
 | p :: z,f,hz=>by
  have h1:∀ f,firsts nd l wt tn (p :: z) f=firsts nd l wt tn z (dJ (way nd l p.1 wt tn) f p.2):=λ_=>rfl;rw [h1,h1,aha f (iJ _ _ _ _ _).1 (hz p (List.mem_cons_self ..)) hy ht,VQ hy ht z _ λq hq=>hz q (List.mem_cons_of_mem _ hq)]
def may (s:S) (r:List Q) (q:Q) (all:List Int) (f:Int):Bool :=
 (H.fit q.l f q.service).2 && (decide (0<=f) && (decide (f<=s.end_) && (decide ((H.fit q.l f q.service).1 + q.service<=s.end_) && (T.fits s r all && (decide (q.aB<=s.day) && decide (s.day<=q.aA))))))
theorem agj {s:S} {r:List Q} {q:Q} {all:List Int} {f:Int}:labelOf s r q all f=if may s r q all f=true then (H.fit q.l f q.service).1 + q.service else -1:=by
 unfold labelOf;by_cases h1:f=-1
 ·rw [if_pos h1,if_neg];simp only [may,Bool.and_eq_true,decide_eq_true_eq];omega
 rw [if_neg h1];by_cases h2:(begins s r q all f).2=true
 ·rw [if_pos h2];obtain ⟨a1,a2,a3,a4,a5,a6,a7⟩:=tZ h2;rw [a3] at a6 ⊢;have a8:¬ (s.day < q.aB\/q.aA < s.day\/s.end_ < f\/T.fits s r all=false):=λh=>(a1 ▸ h:False);rw [if_pos];simp only [may,Bool.and_eq_true,decide_eq_true_eq];have a9:T.fits s r all=true:=by
   cases h:T.fits s r all with
   | true=>rfl
   | false=>exact absurd (.inr (.inr (.inr h))) a8
  have b1:¬ s.day < q.aB:=λh=>a8 (.inl h);have b2:¬ q.aA < s.day:=λh=>a8 (.inr (.inl h));have b3:¬ s.end_ < f:=λh=>a8 (.inr (.inr (.inl h)));exact ⟨a2,a4,by omega,a6,a9,by omega,by omega⟩
 ·rw [if_neg h2,if_neg];intro h;simp only [may,Bool.and_eq_true,decide_eq_true_eq] at h;obtain ⟨c1,c2,c3,c4,c5,c6,c7⟩:=h;apply h2;unfold begins;rw [if_neg]
  ·simp only [Bool.and_eq_true,decide_eq_true_eq];exact ⟨c1,c4⟩
  ·rintro (h | h | h | h)
   ·omega
   ·omega
   ·omega
   ·rw [c5] at h;cases h
section
variable (nd : Int) (l : List Ro) (s : S) (r : List Q) (v : List Int)
def gy (rest:Nat) (tn:Int):Nat->Int
 | 0=>-1
 | i + 1=>dJ (way nd l (req r ((v[i]?).getD 0)).node (T.weight s r (part v rest)) tn) (gy rest tn i) (lab nd l s r v rest i)
def nK (rest:Nat) (tn:Int):Int:=dJ (way nd l s.ag (T.weight s r (part v rest)) tn) (gy nd l s r v rest tn v.length) (if rest=0 then s.start else -1)
def gz (m i:Nat):Nat:=(iI v.length (table nd l s r v (2 ^ v.length)) m).length + (dP m (((table nd l s r v (2 ^ v.length))[m]?).getD []) i).length
end
section
variable {nd : Int} {l : List Ro} {s : S} {r : List Q} {v : List Int}
theorem JF (hc:jX nd l s r v) (rest:Nat) (tn:Int):∀ i,-1<=gy nd l s r v rest tn i/\gy nd l s r v rest tn i<=60001000000
 | 0=>by simp [gy]
 | i + 1=>by
  have h1:=JF hc rest tn i;have h2:=iJ nd l (req r ((v[i]?).getD 0)).node (T.weight s r (part v rest)) tn;have h3:=ET hc rest i;rw [gy];unfold dJ;split <;> omega
theorem agI (hc:jX nd l s r v) (hs:s.start<=1000000) (rest:Nat) (tn:Int):-1<=nK nd l s r v rest tn/\nK nd l s r v rest tn<=60001000000:=by
 have h1:=JF hc rest tn v.length;have h2:=iJ nd l s.ag (T.weight s r (part v rest)) tn;have h3:=hc.start;unfold nK;by_cases h:rest=0
 ·rw [if_pos h];unfold dJ;split <;> omega
 ·rw [if_neg h,BM rfl];exact h1
theorem Zy (rest:Nat) (tn:Int):∀ i,i<=v.length->gy nd l s r v rest tn i=firsts nd l (T.weight s r (part v rest)) tn (((nodes r v).zip (rowOf nd l s r v (table nd l s r v rest) rest)).take i) (-1)
 | 0,_=>rfl
 | i + 1,hi=>by
  have hil:i < v.length:=hi;have hz:((nodes r v).zip (rowOf nd l s r v (table nd l s r v rest) rest))[i]? = some ((req r ((v[i]?).getD 0)).node,lab nd l s r v rest i):=by
   rw [List.getElem?_zip_eq_some];refine ⟨by rw [nodes,List.getElem?_map,zF hil];rfl,?_⟩;unfold lab;rw [zF (by rw [uX];exact hil),Option.getD_some]
  rw [gy,Zy rest tn i (by omega),take_snoc hz];unfold firsts;rw [List.foldl_append];rfl
theorem agH (hc:jX nd l s r v) (rest:Nat) (q:Q):nK nd l s r v rest q.node=arrives nd l s r v (rowOf nd l s r v (table nd l s r v rest) rest) rest q:=by
 have h1:lK nd l s (T.weight s r (part v rest)) q.node rest=dJ (way nd l s.ag (T.weight s r (part v rest)) q.node) (-1) (if rest=0 then s.start else -1):=by
  unfold lK;by_cases h:rest=0
  ·rw [if_pos h,if_pos h]
  ·rw [if_neg h,if_neg h,BM rfl]
 unfold arrives nK;have hst:=hc.start;rw [h1,VQ (iJ _ _ _ _ _).1 (by split <;> omega) _ _ λp hp=>?_,Zy rest q.node v.length (zG _),List.take_of_length_le (by rw [List.length_zip,uX];omega)];obtain ⟨a,b⟩:=p;exact (Ku (λk hk=>(hc.ok k hk).1) b (List.of_mem_zip hp).2).1
theorem agf (hc:jX nd l s r v) {m i:Nat} {k:Int} (hm:m < 2 ^ v.length) (hk:v[i]? = some k) (hb:m.testBit i=true) :
  lab nd l s r v m i=labelOf s r (req r k) (part v m) (nK nd l s r v (m - 2 ^ i) (req r k).node):=by
 have hil:=(zE.1 hk).1;have bJ:=hc.len;have Ji:m < 64:=Nat.lt_of_lt_of_le hm (Nat.pow_le_pow_right (by omega) bJ);obtain ⟨hre,hrb⟩:=Hz Ji (by omega) hb;have hpw:=Nat.two_pow_pos i;unfold lab;rw [FO hk,Option.getD_some,if_pos hb,vw (by omega),Option.getD_some,label,hre,agH hc]
theorem Y_ {m i:Nat} (hb:m.testBit i=false):lab nd l s r v m i=-1:=by
 unfold lab;cases h:v[i]? with
 | none =>
  have:v.length<=i:=by simpa using h
  rw [List.getElem?_eq_none (by rw [uX];exact this)];rfl
 | some k=>rw [FO h,hb];rfl
theorem abk (row:List Int):∀ i,dP 0 row i=[]
 | 0=>rfl
 | i + 1=>by rw [dP,abk row i,Nat.zero_testBit];rfl
theorem ZR:gz nd l s r v 1 0=0:=by
 unfold gz;rw [iI,abk];rfl
theorem ag9 {m i:Nat} (h:m.testBit i=false):gz nd l s r v m (i + 1)=gz nd l s r v m i:=by
 unfold gz;rw [dP,h];simp
theorem ag7 {m i:Nat} (h:m.testBit i=true):gz nd l s r v m (i + 1)=gz nd l s r v m i + 1:=by
 unfold gz;rw [dP,h];simp;omega
theorem ag8 (m:Nat):gz nd l s r v m v.length=gz nd l s r v (m + 1) 0:=by
 unfold gz;rw [iI,List.length_append];rfl
theorem ag6 (h:aP nd l s r v=true):gz nd l s r v (2 ^ v.length) 0=(aS nd l s r v).length:=by
 unfold gz aS;rw [if_pos h];rfl
theorem abj {m:Nat} {row:List Int} {i:Nat}:∀ {j:Nat},i<=j->∃ x,dP m row j=dP m row i ++ x
 | 0,h=>⟨[],by rw [show i=0 by omega];simp⟩
 | j + 1,h=>by
  by_cases e:i=j + 1
  ·exact ⟨[],by rw [e];simp⟩
  ·obtain ⟨x,hx⟩:=abj (m:=m) (row:=row) (i:=i) (j:=j) (by omega);exact ⟨_,by rw [dP,hx,List.append_assoc]⟩
theorem abS {n:Nat} {t:List (List Int)} {i:Nat}:∀ {j:Nat},i<=j->∃ x,iI n t j=iI n t i ++ x
 | 0,h=>⟨[],by rw [show i=0 by omega];simp⟩
 | j + 1,h=>by
  by_cases e:i=j + 1
  ·exact ⟨[],by rw [e];simp⟩
  ·obtain ⟨x,hx⟩:=abS (n:=n) (t:=t) (i:=i) (j:=j) (by omega);exact ⟨_,by rw [iI,hx,List.append_assoc]⟩
theorem agt (h:aP nd l s r v=true) {m i:Nat} (hm:m < 2 ^ v.length) (hi:i < v.length) (hb:m.testBit i=true):(aS nd l s r v)[gz nd l s r v m i]? = some ⟨m,i,lab nd l s r v m i⟩:=by
 obtain ⟨x,hx⟩:=abS (n:=v.length) (t:=table nd l s r v (2 ^ v.length)) (i:=m + 1) (j:=2 ^ v.length) hm;obtain ⟨y,hy⟩:=abj (m:=m) (row:=((table nd l s r v (2 ^ v.length))[m]?).getD []) (i:=i + 1) (j:=v.length) hi;unfold aS;rw [if_pos h,hx,iI,hy];unfold gz;rw [dP,hb,if_pos rfl,List.append_assoc,List.getElem?_append_right (by omega),Nat.add_sub_cancel_left,List.append_assoc,List.append_assoc,List.getElem?_append_right (zG _),Nat.sub_self,vw hm];rfl
end
end K
namespace K
def oZ (a b:Int):Int:=if a < 0\/(0<=b/\b < a) then b else a
def FH (s:S) (r:List Q) (q:Q) (all:List Int) (f:Int):Int :=
 if s.day < q.aB\/q.aA < s.day\/T.fits s r all=false then -1
 else if f < 0\/s.end_ < f then -1
 else if (H.fit q.l f q.service).2=false\/s.end_ < (H.fit q.l f q.service).1 + q.service then -1
 else (H.fit q.l f q.service).1 + q.service
theorem aif (s:S) (r:List Q) (q:Q) (all:List Int) (f:Int):FH s r q all f=labelOf s r q all f:=by
 rw [agj];unfold FH may;cases h1:T.fits s r all <;> cases h2:(H.fit q.l f q.service).2 <;> simp <;> (repeat' split) <;> first | rfl | omega
section
variable {nd : Int} {l : List Ro} {s : S} {r : List Q} {v : List Int}
theorem agh (i:Nat):lab nd l s r v 0 i=-1:=Y_ (Nat.zero_testBit i)
theorem ZA (tn:Int):∀ i,gy nd l s r v 0 tn i=-1
 | 0=>rfl
 | i + 1=>by rw [gy,ZA tn i,agh,BM rfl]
theorem agK (tn:Int):nK nd l s r v 0 tn=if way nd l s.ag (T.weight s r (part v 0)) tn < 0 then -1 else if s.start=-1 then -1 else s.start + way nd l s.ag (T.weight s r (part v 0)) tn:=by
 have hw:=iJ nd l s.ag (T.weight s r (part v 0)) tn;unfold nK;rw [ZA,if_pos rfl];unfold dJ;by_cases h1:way nd l s.ag (T.weight s r (part v 0)) tn < 0
 ·rw [if_pos h1,if_neg (by omega)]
 ·rw [if_neg h1];by_cases h2:s.start=-1
  ·rw [if_pos h2,if_neg (by omega)]
  ·rw [if_neg h2,if_pos ⟨by omega,h2,.inl rfl⟩]
theorem agJ {rest:Nat} (h:rest ≠ 0) (tn:Int):nK nd l s r v rest tn=gy nd l s r v rest tn v.length:=by
 unfold nK;rw [if_neg h,BM rfl]
theorem Zz {rest i:Nat} {tn:Int} (h:lab nd l s r v rest i=-1):gy nd l s r v rest tn (i + 1)=gy nd l s r v rest tn i:=by rw [gy,BM h]
theorem agM {rest i:Nat} {tn k:Int} (hk:v[i]? = some k) (h:way nd l (req r k).node (T.weight s r (part v rest)) tn < 0):gy nd l s r v rest tn (i + 1)=gy nd l s r v rest tn i:=by
 have hw:=iJ nd l (req r k).node (T.weight s r (part v rest)) tn;rw [gy,hk,Option.getD_some,QO (by omega)]
theorem agL (hc:jX nd l s r v) {rest i:Nat} {tn k:Int} (hk:v[i]? = some k) (h1:0<=lab nd l s r v rest i) (h2:0<=way nd l (req r k).node (T.weight s r (part v rest)) tn) :
  gy nd l s r v rest tn (i + 1)=oZ (gy nd l s r v rest tn i) (lab nd l s r v rest i + way nd l (req r k).node (T.weight s r (part v rest)) tn):=by
 have hb:=JF hc rest tn i;rw [gy,hk,Option.getD_some];unfold dJ oZ;by_cases h:gy nd l s r v rest tn i=-1\/lab nd l s r v rest i + way nd l (req r k).node (T.weight s r (part v rest)) tn < gy nd l s r v rest tn i
 ·rw [if_pos ⟨by omega,by omega,h⟩,if_pos (by omega)]
 ·rw [if_neg (λh9=>h h9.2.2),if_neg (by omega)]
end
end K
theorem agD (a b:Int) (w:World):Calls Tryz.prog 206 #[.int .i64 a,.int .i64 b] w λe w'=>e=.returned (.int .i64 (K.oZ a b))/\w=w':=by
 by_cases h1:a < 0
 ·have c1:decide (a < 0)=true:=zH h1;have HX:=zC (show K.oZ a b=b by unfold K.oZ;rw [if_pos (.inl h1)]);go_enter Tryz.func206,Tryz.ntmps206;go_wp2_with fail;go_ret;exact ⟨by rw [HX.out];rfl,rfl⟩
 have c1:decide (a < 0)=false:=zI h1;by_cases h2:0<=b
 ·have c2:decide (0<=b)=true:=zH h2;by_cases h3:b < a
  ·have c3:decide (b < a)=true:=zH h3;have HX:=zC (show K.oZ a b=b by unfold K.oZ;rw [if_pos (.inr ⟨h2,h3⟩)]);go_enter Tryz.func206,Tryz.ntmps206;go_wp2_with fail;go_ret;exact ⟨by rw [HX.out];rfl,rfl⟩
  ·have c3:decide (b < a)=false:=zI h3;have HX:=zC (show K.oZ a b=a by unfold K.oZ;rw [if_neg (by omega)]);go_enter Tryz.func206,Tryz.ntmps206;go_wp2_with fail;go_ret;exact ⟨by rw [HX.out];rfl,rfl⟩
 ·have c2:decide (0<=b)=false:=zI h2;have HX:=zC (show K.oZ a b=a by unfold K.oZ;rw [if_neg (by omega)]);go_enter Tryz.func206,Tryz.ntmps206;go_wp2_with fail;go_ret;exact ⟨by rw [HX.out];rfl,rfl⟩
namespace K
theorem Z5:∀ (f:Nat) (l:List Int),(orders f l).length < f->orders (f + 1) l=orders f l
 | 0,_,h=>absurd h (by omega)
 | f + 1,l,h=>by
  rw [orders] at h;rw [orders,orders];cases hn:jG l with
  | none=>rfl
  | some l' =>
   rw [hn] at h;dsimp only at h ⊢;rw [List.length_cons] at h;rw [Z5 f l' (by omega)]
theorem JS {l l':List Int} (h:jG l=some l') (hl:(orders 25 l).length<=24):orders 25 l=l :: orders 25 l'/\(orders 25 l').length < (orders 25 l).length:=by
 have h1:orders 25 l=l :: orders 24 l':=by
  show orders (24 + 1) l=_;rw [orders,h]
 have h2:orders 25 l'=orders 24 l':=by
  refine Z5 24 l' ?_;rw [h1,List.length_cons] at hl;omega
 rw [h2,h1];exact ⟨rfl,by rw [List.length_cons];omega⟩
theorem JR {l:List Int} (h:jG l=none):orders 25 l=[l]:=by
 show orders (24 + 1) l=_;rw [orders,h]
theorem JJ {l l':List Int} (h:jG l=some l'):l'.length=l.length:=by
 unfold jG at h;cases hi:jT l (l.length - 1) with
 | none=>rw [hi] at h;cases h
 | some i =>
  rw [hi] at h;injection h with h;rw [<-h];unfold turned;rw [List.length_append,List.length_reverse,<-List.length_append,List.take_append_drop,List.length_set,List.length_set]
theorem aht {nd:Int} {l:List Ro} {s:S} {r:List Q} {v:List Int} (hok:aP nd l s r v=true) (h4:v.length<=4):(orders 25 v).length<=24:=by
 rw [QV (Rz hok),List.length_map];exact ahw ⟨v.length,by omega⟩
section
variable {nd : Int} {l : List Ro} {s : S} {r : List Q}
theorem aaq {o:List Int} {os:List (List Int)} {b:Option Tr} (h:(run nd l s r o).e=0) (h2:better b (run nd l s r o).aI.end_=true):pick nd l s r (o :: os) b=pick nd l s r os (some (run nd l s r o).aI):=by
 rw [pick,if_pos ⟨h,h2⟩]
theorem aap {o:List Int} {os:List (List Int)} {b:Option Tr} (h:¬ ((run nd l s r o).e=0/\better b (run nd l s r o).aI.end_=true)):pick nd l s r (o :: os) b=pick nd l s r os b:=by
 rw [pick,if_neg h]
end
end K
def J8 (w:World):Value->List Int
 | .slice (some ad) n _=>(List.range n).map λj=>match w.cell? (ad.add j) with | some (.int _ x)=>x | _=>0
 | _=>[]
theorem aaG {w:World} {A:Option Addr} {n c:Nat} {l:List Int} (h:Ints w A n l):J8 w (.slice A n c)=l:=by
 cases A with
 | none =>
  have h0:n=0:=by
   cases n with
   | zero=>rfl
   | succ n=>obtain ⟨ad,e,_⟩:=h.2.2 (by omega);cases e
  have:=h.1;rw [h0] at this;rw [List.length_eq_zero_iff.1 this.symm];rfl
 | some ad =>
  apply List.ext_getElem?;intro k;unfold J8;rw [List.getElem?_map];by_cases hk:k < n
  ·obtain ⟨ad',x,e,hx,hc⟩:=h.at_ hk;injection e with e;subst e;rw [List.getElem?_range hk,hx,Option.map_some,hc]
  ·rw [List.getElem?_eq_none (by simpa using hk),List.getElem?_eq_none (by rw [<-h.1];omega)];rfl
def leftOf (w:World) (v m:Value):Nat:=match m with
 | .bool true=>(K.orders 25 (J8 w v)).length + 1
 | _=>0
theorem JB (w:World) (v:Value):leftOf w v (.bool false)=0:=rfl
theorem oV {w:World} {A:Option Addr} {n c:Nat} {l:List Int} (h:Ints w A n l):leftOf w (.slice A n c) (.bool true)=(K.orders 25 l).length + 1:=by
 unfold leftOf;rw [aaG h]
def OI (w:World) (ad:Addr) (n c:Nat) (l:List Int):Prop :=
 n=l.length/\n<=c/\∃ g cur,ad=⟨g,0,none⟩/\w.heap[g]? = some (.cells cur 3 (0,0))/\cur.toList.take n=intCells l
theorem OI.ints {w:World} {ad:Addr} {n c:Nat} {l:List Int} (h:OI w ad n c l):Ints w (some ad) n l:=by
 obtain ⟨h1,h2,g,cur,rfl,h3,h4⟩:=h;refine ⟨h1,by simp [intCells,h1],λ_=>⟨_,rfl,λj u hu=>?_⟩⟩;rw [jy,cell_of_row w g j cur 3 (0,0) h3];rw [<-h4,List.getElem?_take] at hu;split at hu
 ·simpa using hu
 ·cases hu
theorem OI.cell {w:World} {ad:Addr} {n c k:Nat} {l:List Int} {x:Int} (h:OI w ad n c l) (hk:l[k]? = some x):w.cell? (ad.add k)=some (.int .i64 x):=by
 obtain ⟨ad',y,e,hy,hc⟩:=h.ints.at_ (k:=k) (by rw [h.1];exact (zE.1 hk).1);injection e with e;subst e;rw [hk] at hy;injection hy with hy;rw [hy];exact hc
theorem OI.free {w:World} {ad:Addr} {n c:Nat} {l:List Int} (h:OI w ad n c l) (k:Nat):w.frozen? (ad.add k)=false:=by
 obtain ⟨h1,h2,g,cur,rfl,h3,h4⟩:=h;rw [jy];exact gI h3 k
theorem OI.set {w:World} {ad:Addr} {n c:Nat} {l:List Int} (h:OI w ad n c l) (k:Nat) (x:Int):OI (w.setCell (ad.add k) (.int .i64 x)) ad n c (l.set k x):=by
 obtain ⟨h1,h2,g,cur,rfl,h3,h4⟩:=h;refine ⟨by rw [List.length_set];exact h1,h2,g,_,rfl,by rw [jy];exact bg h3 k _,?_⟩;rw [Array.toList_setIfInBounds,List.take_set,h4];simp [intCells,List.map_set]
theorem OI.below {w w':World} {ad:Addr} {n c:Nat} {l:List Int} (h:OI w ad n c l) (hb:Below w.heap.size w w'):OI w' ad n c l:=by
 obtain ⟨h1,h2,g,cur,e,h3,h4⟩:=h;exact ⟨h1,h2,g,cur,e,az hb h3,h4⟩
theorem OI.grown {w w':World} {r:Option Nat} {ad:Addr} {n c:Nat} {l:List Int} (h:OI w ad n c l) (hg:w.grownBy w' r) (hne:some ad.block ≠ r):OI w' ad n c l:=by
 obtain ⟨h1,h2,g,cur,rfl,h3,h4⟩:=h;exact ⟨h1,h2,g,cur,rfl,(hg.block g (Array.getElem?_eq_some_iff.1 h3).1 hne).trans h3,h4⟩
theorem OI.lt {w:World} {ad:Addr} {n c:Nat} {l:List Int} (h:OI w ad n c l):ad.block < w.heap.size:=by
 obtain ⟨h1,h2,g,cur,rfl,h3,h4⟩:=h;exact (Array.getElem?_eq_some_iff.1 h3).1
theorem Ints.put {w:World} {A:Option Addr} {n m c k:Nat} {l o:List Int} {ad:Addr} (h:Ints w A n l) (u:Value) (hO:OI w ad m c o) (hA:∀ ad',A=some ad'->ad'.block ≠ ad.block):Ints (w.setCell (ad.add k) u) A n l:=by
 obtain ⟨h1,h2,g,cur,rfl,h3,h4⟩:=hO;rw [jy];exact h.set u hA
theorem aac {w:World} {base:Nat} {v:Value} {n:Nat} {l:List Int} (h:w.ownsRow base 3 1 v n (intCells l)) (hn:n=l.length) :
  ∃ A c,v=.slice A n c/\Ints w A n l/\n<=c/\(0 < n->∃ ad,A=some ad/\OI w ad n c l/\base<=ad.block):=by
 obtain ⟨A,c,e,hI⟩:=mJ h hn;obtain ⟨hl,⟨rfl,rfl⟩ | ⟨g,cap,cur,rfl,hb,hh,hnc,_,hsz,ht⟩⟩:=h
 ·exact ⟨A,c,e,hI,Nat.zero_le _,λh0=>absurd h0 (by omega)⟩
 ·injection e with e1 e2 e3;subst e1 e3;refine ⟨_,_,rfl,hI,hnc,λh0=>?_⟩;exact ⟨_,rfl,⟨hn,hnc,g,cur,rfl,hh,by rw [<-ht,Nat.mul_one]⟩,hb⟩
namespace K
def Dt (v:List Int) (z:Int):Prop:=(z < 0/\jT v (v.length - 1)=none)\/∃ p:Nat,z=p/\p + 1 < v.length/\jT v (v.length - 1)=jT v (p + 1)
theorem abE {v:List Int}:∀ (j:Nat),j < v.length->jT v (v.length - 1)=jT v j->Dt v ((j:Int) - 1)
 | 0,_,h=>.inl ⟨by omega,h⟩
 | j + 1,h1,h=>.inr ⟨j,by omega,h1,h⟩
theorem ajc (v:List Int):Dt v ((v.length:Int) - 2):=by
 rcases Nat.eq_zero_or_pos v.length with h | h
 ·exact .inl ⟨by omega,by rw [h];rfl⟩
 ·have:=abE (v:=v) (v.length - 1) (by omega) rfl;rwa [show (((v.length - 1:Nat):Int) - 1)=(v.length:Int) - 2 by omega] at this
theorem ag2 {v:List Int} {p:Nat} {x y:Int} (h1:v[p]? = some x) (h2:v[p + 1]? = some y):jT v (p + 1)=if y < x then jT v p else some p:=by
 rw [jT,h1,h2];rfl
theorem ag3 {v:List Int} {x y:Int} {k:Nat} (h:v[k]? = some y):jU v x (k + 1)=if y < x then jU v x k else k:=by
 rw [jU,h];rfl
def half (D:List Int) (j:Nat):List Int:=D.reverse.take j ++ D.drop j
theorem aeU (D:List Int):half D 0=D:=by simp [half]
theorem aeS (D:List Int):half D D.length=D.reverse:=by unfold half;rw [List.take_of_length_le (by simp),List.drop_eq_nil_of_le (zG _),List.append_nil]
theorem aeT {P D:List Int} {j:Nat} {x:Int} (h:D[D.length - 1 - j]? = some x) (hj:j < D.length):(P ++ half D j).set (P.length + j) x=P ++ half D (j + 1):=by
 have hr:D.reverse[j]? = some x:=by rw [List.getElem?_reverse hj];exact h
 rw [List.set_append_right _ _ (by omega),show P.length + j - P.length=j by omega];congr 1;unfold half;have hl:(D.reverse.take j).length=j:=by simp;omega
 rw [List.set_append_right _ _ (by omega),take_snoc hr,List.drop_eq_getElem_cons hj,hl,Nat.sub_self,List.set_cons_zero,List.append_assoc];rfl
end K
def acB (w w':World) (o:Option (List Int)) (e:Ending):Prop :=
 ((o=none/\e=.returned (.tuple #[.slice none 0 0,.bool false]))\/(∃ l A n c,o=some l/\n<=c/\e=.returned (.tuple #[.slice A n c,.bool true])/\Ints w' A n l/\∀ ad,A=some ad->w.heap.size<=ad.block))/\Below w.heap.size w w'
theorem next_any (V:Option Addr) (vn vc:Nat) (v:List Int) (w:World) (hV:Ints w V vn v) (hn:vn<=1000000000) :
  Calls Tryz.prog 132 #[.slice V vn vc] w λe w'=>acB w w' (K.jG v) e:=by
 obtain ⟨i0,hi,hz0,hz1,hz2⟩:=info_parts Tryz.info3;have gZ:(w.alloc (.cells #[] 3)).ownsRow w.heap.size 3 1 (.slice (some ⟨w.heap.size,0,none⟩) 0 0) 0 []:=mM (heap_alloc_new w (.cells #[] 3)) (zG _);have ba:Below w.heap.size w (w.alloc (.cells #[] 3)):=(Below.refl _ _).alloc (zG _) _;have aK:=zC hV.1;obtain ⟨z0,hz⟩:∃ z0,z0=(vn:Int) - 2:=⟨_,rfl⟩;have HSK:=zC (show K.Dt v z0 by have h:=K.ajc v;rw [<-aK.out,<-hz] at h;exact h);have kz:IntKind.i64.wrap ((vn:Int) - 2)=z0:=by rw [IntWalk.i64_in _ (by omega)];omega
 have hz1':z0 < (vn:Int):=by omega
 clear hz;go_enter Tryz.func132,Tryz.ntmps132;go_wp2_with (at_builtin;refine jW rfl (.tmp 10) (.tmp 11) 48 rfl w.heap.size 3 i0 (.int .i64 0) 1 8 Tryz.underlying48 hi hz0 hz1 hz2 rfl (by decide) (.slice (some ⟨w.heap.size,0,none⟩) 0 0) 0 [] rfl gZ V vn vc (intCells v) rfl (hV.below ba).2 (oU v) (by simp only [maxLen];omega) (by omega) (by first | (simp;done) | (simp;omega)) ?_;intro v' w1 hown1 hgrow1 OX;rw [Nat.zero_add,List.nil_append] at hown1;obtain ⟨A,c,rfl,hI,-,hO⟩:=aac hown1 aK.out;have hb1:Below w.heap.size w w1:=a_ ba hgrow1 (zq (zG _));clear hown1 hgrow1 OX gZ ba);go_loopw [5] (λv5 wr=>∃ z:Int,v5=.int .i64 z/\z < vn/\Hid (K.Dt v z)/\Below w1.heap.size w1 wr) (λv5 _=>(intOf v5 + 1).toNat)
 case atStart=>exact ⟨z0,rfl,hz1',HSK.out,Below.refl _ _⟩
 case round =>
  clear kz;obtain ⟨z,rfl,hzn,hsk,hbr⟩:=hrel;rcases hsk.out with ⟨hneg,hnone⟩ | ⟨p,hp,hp1,P_⟩
  ·have c1:decide (0<=z)=false:=by simp;omega
   have c2:decide (z < 0)=true:=by simp;omega
   have aV:=zC (show K.jG v=none by unfold K.jG;rw [hnone]);clear hsk hnone;go_wp2_with fail;go_quiet (fail);go_wp2_with fail;go_ret2
   exact ⟨.inl ⟨aV.out,rfl⟩,below_drewN (bel hb1 hbr) _⟩
  ·subst hp;rw [<-aK.out] at hp1 P_;obtain ⟨ad,rfl,WO,hbase⟩:=hO (by omega);clear hO;obtain ⟨q,hq⟩:=zB (p + 1);have hpl:p < vn:=by omega
   have Bo:q < vn:=by omega
   have HOI:=zC WO;obtain ⟨MV,x,ea,hx,cp⟩:=(hI.below hbr).at_ hpl;injection ea with ea;subst ea;obtain ⟨MV,y,ea,hy,cq⟩:=(hI.below hbr).at_ Bo;injection ea with ea;subst ea;have hst:=K.ag2 hx (by rw [<-hq];exact hy);have k1:decide ((0:Int)<=(p:Int))=true:=by simp
   have k2:decide ((p:Int) < 0)=false:=by simp
   have k3:IntKind.i64.wrap ((p:Int) + 1)=(q:Int):=by rw [IntWalk.i64_in _ (by omega)];omega
   have k4:(0:Int)<=(p:Int):=by omega
   have k5:(p:Int) < (vn:Int):=by omega
   have k6:(0:Int)<=(q:Int):=by omega
   have k7:(q:Int) < (vn:Int):=by omega
   have HX:=zC hx;have TQ:=zC P_;have HQ:=zC hq;clear hx hy P_ hsk hq WO hp1;by_cases hlt:y < x
   ·have c1:decide (y < x)=true:=zH hlt;obtain ⟨zz,hzz⟩:∃ zz,zz=(p:Int) - 1:=⟨_,rfl⟩;have k8:IntKind.i64.wrap ((p:Int) - 1)=zz:=by rw [IntWalk.i64_in _ (by omega)];omega
    have HN:=zC (show K.Dt v zz by rw [hzz];exact K.abE p (by rw [<-aK.out];exact hpl) (by rw [<-aK.out,TQ.out,hst,if_pos hlt]));have hzv:zz < (vn:Int):=by omega
    have hmz:(zz + 1).toNat < ((p:Int) + 1).toNat:=by omega
    clear hst hzz;go_wp2_with fail;go_quiet (fail);go_wp2_with fail;go_roundw
    case rel=>exact ⟨zz,rfl,hzv,HN.out,below_drewN hbr _⟩
    case measure=>exact hmz
   ·have c1:decide (y < x)=false:=zI hlt;have HI:=zC (show K.jT v (v.length - 1)=some p by rw [<-aK.out,TQ.out,hst,if_neg hlt]);have HXY:=zC hlt;clear hst hlt;obtain ⟨k0,hk0⟩:=zB (vn - 1);have k8:IntKind.i64.wrap ((vn:Int) - 1)=(k0:Int):=by rw [IntWalk.i64_in _ (by omega)];omega
    have hk1:k0 + 1=vn:=by omega
    have xM:=zC hk1;have hk2:k0 < vn:=by omega
    have hk3:p<=k0:=by omega
    clear hk0 hk1;go_wp2_with fail;go_quiet (fail);obtain ⟨w2,hnew⟩:=zB (wr.drewN nq);rw [<-hnew];have hb2:Below w1.heap.size w1 w2:=by rw [hnew];exact below_drewN hbr _
    clear hnew hbr cp cq k1 c1;go_wp2_with fail;clear k2 k8;go_loopw [6] (λv6 ws=>∃ k:Nat,v6=.int .i64 k/\p<=k/\k < vn/\Hid (K.jU v x vn=K.jU v x (k + 1))/\Below w2.heap.size w2 ws) (λv6 _=>(intOf v6).toNat)
    case atStart=>exact ⟨k0,rfl,hk3,hk2,by rw [xM.out];exact rfl,Below.refl _ _⟩
    case round =>
     clear hk2 hk3;obtain ⟨k,rfl,hpk,hkn,hnk,hbs⟩:=hrel;have I_:=bel hb2 hbs;obtain ⟨MV,u,ea,hu,cu⟩:=(hI.below I_).at_ hkn;injection ea with ea;subst ea;obtain ⟨MV,x1,ea,hx1,cp⟩:=(hI.below I_).at_ hpl;rw [HX.out] at hx1;injection hx1 with hx1;subst hx1;injection ea with ea;subst ea;have hst:=K.ag3 (x:=x) hu;have j1:(0:Int)<=(k:Int):=by omega
     have j2:(k:Int) < (vn:Int):=by omega
     by_cases EH:u < x
     ·have c1:decide (u < x)=true:=zH EH;have hne:k ≠ p:=by
       intro e;rw [e,HX.out] at hu;injection hu with hu;omega
      obtain ⟨kk,hkk⟩:∃ kk:Nat,k=kk + 1:=⟨k - 1,by omega⟩;have j3:IntKind.i64.wrap ((k:Int) - 1)=(kk:Int):=by rw [IntWalk.i64_in _ (by omega)];omega
      have HN:=zC (show K.jU v x vn=K.jU v x (kk + 1) by rw [hnk.out,hst,if_pos EH,hkk]);have g1:p<=kk:=by omega
      have g2:kk < vn:=by omega
      have g3:kk < k:=by omega
      clear hu hnk hst hkk hne;go_wp2_with fail;go_quiet (fail);go_wp2_with fail;go_roundw
      case rel=>exact ⟨kk,rfl,g1,g2,HN.out,below_drewN hbs _⟩
      case measure=>simp [intOf];exact g3
     ·have c1:decide (u < x)=false:=zI EH;have HNK:=zC (show K.jU v x vn=k by rw [hnk.out,hst,if_neg EH]);have HU:=zC hu;clear hnk hst hu EH;go_wp2_with fail;go_quiet (fail);obtain ⟨w3,hnew⟩:=zB (wr.drewN nq);rw [<-hnew];have hb3:Below w1.heap.size w1 w3:=by rw [hnew];exact below_drewN I_ _
      clear hnew hbs I_ cu cp c1;have O3:=HOI.out.below hb3;have cp:=O3.cell HX.out;have cu:=O3.cell HU.out;have fp:=O3.free p;obtain ⟨w4,hw4⟩:=zB (w3.setCell (ad.add p) (.int .i64 u));have O4:OI w4 ad vn c (v.set p u):=by rw [hw4];exact O3.set p u
      obtain ⟨u4,hu4⟩:∃ u4,(v.set p u)[k]? = some u4:=⟨_,zF (by rw [List.length_set,<-aK.out];exact hkn)⟩;have Vy:=O4.cell hu4;have VV:=O4.free k;obtain ⟨w5,hw5⟩:=zB (w4.setCell (ad.add k) (.int .i64 x));obtain ⟨S,hS⟩:=zB ((v.set p u).set k x);have O5:OI w5 ad vn c S:=by rw [hw5,hS];exact O4.set k x
      have z5:w5.heap.size=w3.heap.size:=by rw [hw5,hw4];simp
      have hb5:Below w.heap.size w w5:=by
       rw [hw5,hw4];exact ((bel hb1 hb3).setCell (by rw [add_block];exact hbase) _).setCell (by rw [add_block];exact hbase) _
      have hSl:S.length=vn:=by rw [hS,List.length_set,List.length_set,aK.out]
      have HT:=zC (show K.jG v=some (S.take q ++ (S.drop q).reverse) by
       unfold K.jG;rw [HI.out];show some (K.turned v p (K.jU v ((v[p]?).getD 0) v.length))=_;rw [HX.out,Option.getD_some,<-aK.out,HNK.out];unfold K.turned;rw [HX.out,HU.out,Option.getD_some,Option.getD_some,<-hS,HQ.out])
      have hblk5:=O5.lt;have XZ:(w5.alloc (.cells #[] 3)).ownsRow w5.heap.size 3 1 (.slice (some ⟨w5.heap.size,0,none⟩) 0 0) 0 []:=mM (heap_alloc_new w5 (.cells #[] 3)) (zG _);have Nk:Below w5.heap.size w5 (w5.alloc (.cells #[] 3)):=(Below.refl _ _).alloc (zG _) _;have Wv:=(Ints.drop (O5.ints) rfl (k:=q) (by omega)).below Nk;obtain ⟨mm,hmm⟩:=zB (vn - q);have hqc:q<=c:=by have:=O5.2.1;omega
      have hnc:vn<=c:=O5.2.1;have k8:(q:Int)<=(vn:Int):=by omega
      have k9:(vn:Int)<=(c:Int):=by omega
      have Jj:q + mm=vn:=by omega
      have HMQ:=zC Jj;have hDl:mm=(S.drop q).length:=by rw [List.length_drop,hSl];omega
      have vI:=zC hDl;have oh:=zC hSl;have akG:mm<=1000000000:=by omega
      clear hDl hSl Jj;rw [hw4] at Vy VV;go_upto_region 13 with fail;rw [<-hw4,<-hw5];clear hw4 hw5 Vy VV cp cu fp O3 O4 z5;go_wp2_with (at_builtin;refine jW rfl (.tmp 64) (.tmp 68) 48 rfl w5.heap.size 3 i0 (.int .i64 0) 1 8 Tryz.underlying48 hi hz0 hz1 hz2 rfl (by decide) (.slice (some ⟨w5.heap.size,0,none⟩) 0 0) 0 [] rfl XZ (some (ad.add q)) (vn - q) _ (intCells (S.drop q)) rfl Wv.2 (oU _) (by simp only [maxLen];omega) (by omega) (by first | (simp;done) | (simp;omega)) ?_;intro v' w6 hown6 hgrow6 gW;rw [Nat.zero_add,List.nil_append,<-hmm] at hown6;obtain ⟨R,rc,rfl,hR⟩:=mJ hown6 vI.out;have hRb:=(λad' (e:R=some ad')=>(hown6.lt ad'.block (by rw [e];rfl)).1);have hb6:Below w5.heap.size w5 w6:=a_ Nk hgrow6 (zq (zG _));have O6:=O5.below hb6;have XK:=bel hb5 hb6;clear hown6 hgrow6 gW XZ Nk Wv k8 k9;try (rw [<-hmm]);clear hmm);go_loopw [9] (λv9 ws=>∃ j:Nat,v9=.int .i64 j/\j<=mm/\OI ws ad vn c (S.take q ++ K.half (S.drop q) j)/\Ints ws R mm (S.drop q)/\Below w.heap.size w ws) (λv9 _=>mm - (intOf v9).toNat)
      case atStart=>exact ⟨0,rfl,by omega,by rw [K.aeU,List.take_append_drop];exact O6,hR,XK⟩
      case round =>
       clear O6 hR XK hb6;obtain ⟨j,rfl,hj,AQ,hRj,hbj⟩:=hrel;by_cases hlt:j < mm
       ·obtain ⟨zz,hzz⟩:=zB (q + j);obtain ⟨m1,hm1⟩:∃ m1:Nat,mm=m1 + 1:=⟨mm - 1,by omega⟩;obtain ⟨yy,zh⟩:=zB (m1 - j);have Jj:=HMQ.out;have hym:yy < mm:=by omega
        have hzv:zz < vn:=by omega
        obtain ⟨adr,e,hAR,he,ce⟩:=hRj.at_ hym;obtain ⟨old,hold⟩:∃ old,(S.take q ++ K.half (S.drop q) j)[zz]? = some old:=⟨_,zF (by rw [<-AQ.1];exact hzv)⟩;have cz:=AQ.cell hold;have fz:=AQ.free zz;have hPl:(S.take q).length=q:=by rw [List.length_take,oh.out];omega
        have aV:(S.take q ++ K.half (S.drop q) j).set zz e=S.take q ++ K.half (S.drop q) (j + 1):=by
         rw [hzz];have h:=K.aeT (P:=S.take q) (D:=S.drop q) (j:=j) (x:=e) (by rw [<-vI.out,hm1,show m1 + 1 - 1 - j=yy by omega];exact he) (by rw [<-vI.out];exact hlt);rwa [hPl] at h
        have WS:=AQ.set zz e;rw [aV] at WS;have uw:=hRj.put (.int .i64 e) (k:=zz) AQ (λad' e'=>by have:=hRb ad' e';omega);have hbn:Below w.heap.size w (wr.setCell (ad.add zz) (.int .i64 e)):=hbj.setCell (by rw [add_block];exact hbase) _;have j1:IntKind.i64.wrap ((q:Int) + (j:Int))=(zz:Int):=by rw [IntWalk.i64_in _ (by omega)];omega
        have j2:IntKind.i64.wrap ((mm:Int) - 1)=(m1:Int):=by rw [IntWalk.i64_in _ (by omega)];omega
        have j3:IntKind.i64.wrap ((m1:Int) - (j:Int))=(yy:Int):=by rw [IntWalk.i64_in _ (by omega)];omega
        have j4:(0:Int)<=(yy:Int):=by omega
        have j5:(yy:Int) < (mm:Int):=by omega
        have j6:(0:Int)<=(zz:Int):=by omega
        have j7:(zz:Int) < (vn:Int):=by omega
        subst hAR;clear hold hPl aV he hzz hm1 zh hym hzv Jj;go_wp2_with fail;go_roundw
        case rel=>exact ⟨j + 1,by go_num,hlt,WS,uw,hbn⟩
        case measure=>simp [intOf];omega
       ·have HE:=zC (show S.take q ++ K.half (S.drop q) j=S.take q ++ (S.drop q).reverse by rw [show j=mm by omega,vI.out,K.aeS]);go_wp2_with fail;go_ret2
        exact ⟨.inr ⟨_,some ad,vn,c,HT.out,hnc,rfl,by rw [<-HE.out];exact AQ.ints,λad' e=>by injection e with e;rw [<-e];exact hbase⟩,hbj⟩
end Go.Proofs.YtippdjmpkafifaaGreat
