import Derived.Test.YtippdjmpkafifaaGreatCT4
import Derived.BigRegion
import Derived.DeepKeys5
import Derived.Maps.OwnSet
import Derived.Deep.RegionHeld3
set_option maxRecDepth 100000
set_option maxHeartbeats 64000000
namespace Go.Proofs.YtippdjmpkafifaaGreat
open Go.RowKit
def lq (w:World):List Obj->World
 | []=>w
 | o :: l=>lq (w.alloc o) l
theorem lq.size:∀ (l:List Obj) (w:World),(lq w l).heap.size=w.heap.size + l.length:=by
 intro l;induction l with
 | nil=>intro w;rfl
 | cons o l ih=>intro w;show (lq (w.alloc o) l).heap.size=_;rw [ih,World.size_alloc,List.length_cons];omega
theorem lq.below:∀ (l:List Obj) (w:World),Below w.heap.size w (lq w l):=by
 intro l;induction l with
 | nil=>intro w;exact Below.refl _ _
 | cons o l ih=>intro w;exact bel ((Below.refl _ _).alloc (zG _) o) (ih _)
theorem lq.get:∀ (l:List Obj) (w:World) (i:Nat) (o:Obj),l[i]? = some o->(lq w l).heap[w.heap.size + i]? = some o:=by
 intro l;induction l with
 | nil=>intro w i o h;simp at h
 | cons o' l ih =>
  intro w i o h;show (lq (w.alloc o') l).heap[_]? = _;cases i with
  | zero =>
   simp at h;subst h;exact az (lq.below l _) (heap_alloc_new w o')
  | succ i =>
   have:=ih (w.alloc o') i o (by simpa using h);rw [World.size_alloc] at this;rw [<-this];congr 1;omega
end Go.Proofs.YtippdjmpkafifaaGreat
namespace Go.Proofs.YtippdjmpkafifaaGreat
open Go.RowKit
namespace K
def jI (nd:Int) (r:List Q):Int->List Int->Bool
 | _,[]=>true
 | p,k :: rest=>decide (0<=k) && (decide (k < (r.length:Int)) && (decide (p < k) && (decide ((req r k).node < nd) && jI nd r k rest)))
def aP (nd:Int) (l:List Ro) (s:S) (r:List Q) (v:List Int):Bool :=
 (aG nd l == 0) && ((T.check s == 0) && (decide (s.ag < nd) && (!(r.any λq=>!T.right q) && (decide (v.length<=6) && jI nd r (-1) v))))
def prev (v:List Int):Nat->Int
 | 0=>-1
 | k + 1=>(v[k]?).getD (-1)
theorem ajl {nd:Int} {r:List Q} {v:List Int} {k:Nat} {i:Int} (h:v[k]? = some i) (p:Int):jI nd r p (v.drop k)=(decide (0<=i) && (decide (i < (r.length:Int)) && (decide (p < i) && (decide ((req r i).node < nd) && jI nd r i (v.drop (k + 1)))))):=by
 obtain ⟨hk,e⟩:=zE.1 h;rw [List.drop_eq_getElem_cons hk,e];rfl
end K
structure Ext (w w':World):Prop where
 size:w.heap.size<=w'.heap.size
 cells:∀ (g:Nat) (cs:Array Value) (t:TypeId) (z:Nat × Nat),w.heap[g]? = some (Obj.cells cs t z)->w'.heap[g]? = some (Obj.cells cs t z)
theorem Ext.refl (w:World):Ext w w:=⟨zG _,λ_ _ _ _ h=>h⟩
theorem Ext.trans {a b c:World} (h:Ext a b) (h2:Ext b c):Ext a c:=⟨Nat.le_trans h.size h2.size,λg cs t z e=>h2.cells g cs t z (h.cells g cs t z e)⟩
theorem Ext.below {w w':World} (h:Below w.heap.size w w'):Ext w w':=⟨h.size,λ_ _ _ _ e=>az h e⟩
theorem Ext.cell {w w':World} (h:Ext w w') {p:Addr} {v:Value} (e:w.cell? p=some v):w'.cell? p=some v:=by
 have hlt:=cell_lt e;cases ho:w.heap[p.block]? with
 | none=>rw [Array.getElem?_eq_none_iff] at ho;omega
 | some o =>
  cases o with
  | cells cs t z=>exact (World.cell?_of_block (by rw [h.cells _ _ _ _ ho,ho])).trans e
  | _=>simp [World.cell?,ho] at e
theorem Rd.ext {w w':World} {size n:Nat} {A:Option Addr} {xs:List Value} (h:Rd w size A n xs) (hb:Ext w w'):Rd w' size A n xs :=
 ⟨h.1,λhn=>by
  obtain ⟨ad,e,hc⟩:=h.2 hn;exact ⟨ad,e,λj u hu=>hb.cell (hc j u hu)⟩⟩
theorem Ints.ext {w w':World} {A:Option Addr} {n:Nat} {l:List Int} (h:Ints w A n l) (hb:Ext w w'):Ints w' A n l:=⟨h.1,h.2.ext hb⟩
open Go.WideMaps Go.Maps Go.WideShapes
theorem laidOut:laidOutB Tryz.prog=true:=by kernel_rfl
theorem aiN:(224:TypeId) < Tryz.prog.types.size:=of_decide_eq_true (by kernel_rfl)
theorem aj':(match Tryz.prog.underlying 224 with | some (.array _ _) | some (.struct _)=>true | _=>false)=true:=by rw [Tryz.underlying224]
theorem zU:Keyed Tryz.prog 224:=Keyed.of_law (deep_law_laid laidOut (m:=2) (by omega) aiN (by kernel_rfl) aj')
theorem Vb:Tryz.prog.cellsOf 224=2:=by kernel_rfl
theorem ajR:Tryz.prog.keyType 224=true:=by kernel_rfl
theorem cells3:Tryz.prog.cellsOf 3=1:=by kernel_rfl
theorem abW:0 < Tryz.prog.types.size:=of_decide_eq_true (by kernel_rfl)
theorem KP {f k:Int} (hf:(Lit.int .i64 f).wf=true) (hk:(Lit.int .i64 k).wf=true):∃ l,keyOf Tryz.prog 224 (.agg #[.int .i64 f,.int .i64 k])=some l:=by
 unfold keyOf;rw [Tryz.underlying224];simp only [ajR,Bool.true_and,Value.formed,Tryz.underlying224,Vb];have hp:=abW;generalize Tryz.prog.types.size=N at *;obtain ⟨M,rfl⟩:∃ M,N=M + 1:=⟨N - 1,by omega⟩;have h1:Tryz.prog.keyLits (M + 1 + 1) 224 [.int .i64 f,.int .i64 k] = some ([Lit.int .i64 f] ++ [Lit.int .i64 k]):=by
  simp [Program.keyLits,Tryz.underlying224,Tryz.underlying3,Vb,cells3,hf,hk]
 have h2:(Value.agg #[Value.int IntKind.i64 f,Value.int IntKind.i64 k]).cells.toList=[.int .i64 f,.int .i64 k]:=rfl;rw [h2,h1];exact ⟨_,rfl⟩
open Go.MapKept Go.ChangeMaps in
theorem Ext.JO {w w':World} {mb:Nat} {es:Array MapEntry} {clock:Nat} (hm:w.heap[mb]? = some (.map es clock)) (hg:w.grownBy w' (some mb)):Ext w w' :=
 ⟨hg.size,λg cs t z e=>eX hg e (λe2=>by injection e2 with e2;subst e2;rw [hm] at e;cases e)⟩
def dH (w:World) (mb:Nat) (nd:Int) (l:List Ro) (X:Nat->Prop):Prop :=
 ∃ es clock,w.heap[mb]? = some (.map es clock)/\∀ e ∈ es.toList,∃ f k A n c,e.key=.agg #[.int .i64 f,.int .i64 k]/\(Lit.int .i64 f).wf=true/\(Lit.int .i64 k).wf=true/\e.val=.slice A n c/\Ints w A n (K.times nd l f k)/\∀ ad,A=some ad->ad.block < w.heap.size/\¬ X ad.block
theorem dH.ext {w w':World} {mb:Nat} {nd:Int} {l:List Ro} {X:Nat->Prop} (h:dH w mb nd l X) (hg:w.grownBy w' (some mb)):Ext w w':=by
 obtain ⟨es,clock,hm,-⟩:=h;exact Ext.JO hm hg
theorem dH.keep {w w':World} {mb:Nat} {nd:Int} {l:List Ro} {X:Nat->Prop} (h:dH w mb nd l X) (he:Ext w w') (hm:w'.heap[mb]? = w.heap[mb]?):dH w' mb nd l X:=by
 obtain ⟨es,clock,hb,hes⟩:=h;refine ⟨es,clock,hm.trans hb,λe he'=>?_⟩;obtain ⟨f,k,A,n,c,h1,h2,h3,h4,h5,h6⟩:=hes e he';exact ⟨f,k,A,n,c,h1,h2,h3,h4,h5.ext he,λad ha=>⟨Nat.lt_of_lt_of_le (h6 ad ha).1 he.size,(h6 ad ha).2⟩⟩
theorem dH.below {w w':World} {mb:Nat} {nd:Int} {l:List Ro} {X:Nat->Prop} (h:dH w mb nd l X) (hb:Below w.heap.size w w'):dH w' mb nd l X:=by
 have h1:=h;obtain ⟨es,clock,hm,-⟩:=h1;exact h.keep (Ext.below hb) (hb.block mb (Array.getElem?_eq_some_iff.1 hm).1)
theorem dH.lt {w:World} {mb:Nat} {nd:Int} {l:List Ro} {X:Nat->Prop} (h:dH w mb nd l X):mb < w.heap.size:=by
 obtain ⟨es,clock,hm,-⟩:=h;exact (Array.getElem?_eq_some_iff.1 hm).1
open Go.MapKept Go.ChangeMaps in
theorem dH.look {w:World} {mb:Nat} {nd:Int} {l:List Ro} {X:Nat->Prop} (h:dH w mb nd l X) {f k:Int} (hf:(Lit.int .i64 f).wf=true) (hk:(Lit.int .i64 k).wf=true) :
  ∃ A n c ok,(Instr.lookup 211 (.map (some mb)) (.agg #[.int .i64 f,.int .i64 k]) true).run Tryz.prog w=.ok (.tuple #[.slice A n c,.bool ok]) w/\(ok=true->Ints w A n (K.times nd l f k)):=by
 obtain ⟨es,clock,hb,hes⟩:=h;obtain ⟨kl,hkey⟩:=KP hf hk;have hkeys:∀ e ∈ es.toList,∃ l,keyOf Tryz.prog 224 e.key=some l:=λe he=>by
  obtain ⟨f',k',A,n,c,h1,h2,h3,-⟩:=hes e he;rw [h1];exact KP h2 h3
 rcases zU.find w hkey es.toList hkeys with ⟨h1,h2⟩ | ⟨j,e0,h1,h2,h3⟩
 ·refine ⟨none,0,0,false,?_,λe=>by cases e⟩;simp [Instr.lookup,run_underlying Tryz.underlying211,MapKept.run_getObj_map hb,zU.check w _ hkey,h1,Result.andThen]
 ·obtain ⟨f',k',A,n,c,g1,-,-,g4,g5,-⟩:=hes e0 (zD h2);rw [h3] at g1;injection g1 with g1;simp at g1;obtain ⟨rfl,rfl⟩:=g1;refine ⟨A,n,c,true,?_,λ_=>g5⟩;rw [<-g4];simp [Instr.lookup,run_underlying Tryz.underlying211,MapKept.run_getObj_map hb,zU.check w _ hkey,h1,Result.andThen]
open Go.MapKept Go.ChangeMaps in
theorem dH.store {w:World} {mb:Nat} {nd:Int} {l:List Ro} {X:Nat->Prop} (h:dH w mb nd l X) {f k:Int} (hf:(Lit.int .i64 f).wf=true) (hk:(Lit.int .i64 k).wf=true) {A:Option Addr} {n c:Nat} (hv:Ints w A n (K.times nd l f k)) (hA:∀ ad,A=some ad->ad.block < w.heap.size/\¬ X ad.block) :
  ∃ w',(Instr.mapUpdate 211 (.map (some mb)) (.agg #[.int .i64 f,.int .i64 k]) (.slice A n c)).run Tryz.prog w=.ok () w'/\dH w' mb nd l X/\w.grownBy w' (some mb):=by
 obtain ⟨es,clock,hb,hes⟩:=h;obtain ⟨kl,hkey⟩:=KP hf hk;have hkeys:∀ e ∈ es.toList,∃ l,keyOf Tryz.prog 224 e.key=some l:=λe he=>by
  obtain ⟨f',k',A,n,c,h1,h2,h3,-⟩:=hes e he;rw [h1];exact KP h2 h3
 have hgr:∀ es' clock',w.grownBy (setBlock w mb (.map es' clock')) (some mb):=λes' clock'=>⟨rfl,rfl,rfl,by simp [setBlock],λi _ hi=>heap_setBlock_other hb _ (λe=>hi (by rw [e]))⟩;have hmk:∀ es' clock',(∀ e ∈ es'.toList,e ∈ es.toList\/(e.key=.agg #[.int .i64 f,.int .i64 k]/\e.val=.slice A n c))->dH (setBlock w mb (.map es' clock')) mb nd l X:=λes' clock' he=>by
  have hx:=Ext.JO hb (hgr es' clock');refine ⟨es',clock',heap_setBlock_same hb _,λe h9=>?_⟩;rcases he e h9 with h9 | ⟨h9,h10⟩
  ·obtain ⟨f',k',A,n,c,h1,h2,h3,h4,h5,h6⟩:=hes e h9;exact ⟨f',k',A,n,c,h1,h2,h3,h4,h5.ext hx,λad ha=>⟨Nat.lt_of_lt_of_le (h6 ad ha).1 hx.size,(h6 ad ha).2⟩⟩
  ·exact ⟨f,k,A,n,c,h9,hf,hk,h10,hv.ext hx,λad ha=>⟨Nat.lt_of_lt_of_le (hA ad ha).1 hx.size,(hA ad ha).2⟩⟩
 rcases zU.find w hkey es.toList hkeys with ⟨h1,h2⟩ | ⟨j,e0,h1,h2,h3⟩
 ·refine ⟨setBlock w mb (.map (es.push ⟨.agg #[.int .i64 f,.int .i64 k],.slice A n c,clock⟩) (clock + 1)),?_,hmk _ _ ?_,hgr _ _⟩
  ·simp [Instr.mapUpdate,run_underlying Tryz.underlying211,MapKept.run_getObj_map hb,zU.check w false hkey,h1,MapKept.run_setObj_map _ hb,Result.andThen,setBlock]
  ·intro e he;simp only [Array.toList_push,List.mem_append,List.mem_singleton] at he;rcases he with he | rfl
   ·exact .inl he
   ·exact .inr ⟨rfl,rfl⟩
 ·have hj:es[j]? = some e0:=by simpa using h2
  refine ⟨setBlock w mb (.map (es.modify j λe=>{ e with key:=.agg #[.int .i64 f,.int .i64 k],val:=.slice A n c }) clock),?_,hmk _ _ ?_,hgr _ _⟩
  ·simp [Instr.mapUpdate,run_underlying Tryz.underlying211,MapKept.run_getObj_map hb,zU.check w false hkey,h1,hj,h3,zU.stays w hkey,MapKept.run_setObj_map _ hb,Result.andThen,setBlock]
  ·intro e he;rw [Array.mem_toList_iff,Array.mem_iff_getElem?] at he;obtain ⟨i,he⟩:=he;rw [Array.getElem?_modify] at he;by_cases hij:j=i
   ·rw [if_pos hij,<-hij,hj] at he;simp at he;subst he;exact .inr ⟨rfl,rfl⟩
   ·rw [if_neg hij] at he;exact .inl (by rw [Array.mem_toList_iff,Array.mem_iff_getElem?];exact ⟨i,he⟩)
theorem aQ.ext {α:Type} {f:α->List Value} {s:Nat} {w w':World} {A:Option Addr} {n:Nat} {l:List α} (h:aQ f s w A n l) (hb:Ext w w'):aQ f s w' A n l:=⟨h.1,h.2.ext hb⟩
theorem fB.ext {w w':World} {A:Option Addr} {n:Nat} {l:List (Int × Int)} (h:fB w A n l) (hb:Ext w w'):fB w' A n l:=⟨h.1,h.2.ext hb⟩
theorem bW.ext {w w':World} {A:Option Addr} {n:Nat} {l:List Q} (h:bW w A n l) (hb:Ext w w'):bW w' A n l:=⟨h.1,h.2.1.ext hb,λq hq=>(h.2.2 q hq).ext hb⟩
theorem At.ext {w w':World} {x:C} (h:At w x) (hb:Ext w w'):At w' x:=⟨aQ.ext h.net hb,h.g_.ext hb,h.aN.ext hb,h.b1,h.b2,h.b3,h.b4⟩
structure PS where
 x:C
 A:Option Addr
 n:Nat
 c:Nat
 l:List Int
def vW (w:World) (b mb:Nat) (p:PS):Prop :=
 w.heap[b]? = some (.cells #[.int .i64 p.x.nd,.slice p.x.A p.x.n p.x.c,.int .i64 p.x.s.day,.int .i64 p.x.s.ag,.int .i64 p.x.s.start,.int .i64 p.x.s.end_,.int .i64 p.x.s.aj,.slice p.x.s.A p.x.s.n p.x.s.c,.slice p.x.B p.x.m p.x.d,.slice p.A p.n p.c,.map (some mb)] 213 (0,0))
def acv (b mb:Nat) (p:PS) (w':World):Prop :=
 w'.cell? ⟨b,0,none⟩=some (.int .i64 p.x.nd)/\w'.cell? ⟨b,1,none⟩=some (.slice p.x.A p.x.n p.x.c)/\w'.cell? ⟨b,2,none⟩=some (.int .i64 p.x.s.day)/\w'.cell? ⟨b,3,none⟩=some (.int .i64 p.x.s.ag)/\w'.cell? ⟨b,4,none⟩=some (.int .i64 p.x.s.start) /\
  w'.cell? ⟨b,5,none⟩=some (.int .i64 p.x.s.end_)/\w'.cell? ⟨b,6,none⟩=some (.int .i64 p.x.s.aj)/\w'.cell? ⟨b,7,none⟩=some (.slice p.x.s.A p.x.s.n p.x.s.c)/\w'.cell? ⟨b,8,none⟩=some (.slice p.x.B p.x.m p.x.d)/\w'.cell? ⟨b,9,none⟩=some (.slice p.A p.n p.c)/\w'.cell? ⟨b,10,none⟩=some (.map (some mb))
theorem vW.cells {w:World} {b mb:Nat} {p:PS} (h:vW w b mb p):acv b mb p w :=
 ⟨af h 0 _ rfl,af h 1 _ rfl,af h 2 _ rfl,af h 3 _ rfl,af h 4 _ rfl,af h 5 _ rfl,af h 6 _ rfl,af h 7 _ rfl,af h 8 _ rfl,af h 9 _ rfl,af h 10 _ rfl⟩
structure bP (w:World) (b mb:Nat) (p:PS) (X:Nat->Prop):Prop where
 at_:At w p.x
 set:Ints w p.A p.n p.l
 blk:vW w b mb p
 memo:dH w mb p.x.nd p.x.l X
 ok:K.aP p.x.nd p.x.l p.x.s p.x.r p.l=true
 cap:p.n<=p.c
theorem bP.keep {w w':World} {b mb:Nat} {p:PS} {X:Nat->Prop} (h:bP w b mb p X) (he:Ext w w') (hm:dH w' mb p.x.nd p.x.l X):bP w' b mb p X :=
 ⟨h.at_.ext he,h.set.ext he,he.cells _ _ _ _ h.blk,hm,h.ok,h.cap⟩
theorem bP.below {w w':World} {b mb:Nat} {p:PS} {X:Nat->Prop} (h:bP w b mb p X) (hb:Below w.heap.size w w'):bP w' b mb p X:=h.keep (Ext.below hb) (h.memo.below hb)
theorem dH.more {w:World} {mb:Nat} {nd:Int} {l:List Ro} {X Y:Nat->Prop} (h:dH w mb nd l X) (hY:∀ g,g < w.heap.size->Y g->X g):dH w mb nd l Y:=by
 obtain ⟨es,clock,hb,hes⟩:=h;refine ⟨es,clock,hb,λe he'=>?_⟩;obtain ⟨f,k,A,n,c,h1,h2,h3,h4,h5,h6⟩:=hes e he';exact ⟨f,k,A,n,c,h1,h2,h3,h4,h5,λad ha=>⟨(h6 ad ha).1,λhy=>(h6 ad ha).2 (hY _ (h6 ad ha).1 hy)⟩⟩
theorem bP.more {w:World} {b mb:Nat} {p:PS} {X Y:Nat->Prop} (h:bP w b mb p X) (hY:∀ g,g < w.heap.size->Y g->X g):bP w b mb p Y:=⟨h.at_,h.set,h.blk,h.memo.more hY,h.ok,h.cap⟩
theorem dH.set {w:World} {mb:Nat} {nd:Int} {l:List Ro} {X:Nat->Prop} (h:dH w mb nd l X) {g:Nat} (hg:X g) (hne:g ≠ mb) (i:Nat) (v:Value):dH (w.setCell ⟨g,i,none⟩ v) mb nd l X:=by
 obtain ⟨es,clock,hb,hes⟩:=h;refine ⟨es,clock,(Below.heap_setCell w _ _ mb (λe=>hne e.symm)).trans hb,λe he'=>?_⟩;obtain ⟨f,k,A,n,c,h1,h2,h3,h4,h5,h6⟩:=hes e he';exact ⟨f,k,A,n,c,h1,h2,h3,h4,h5.set _ (λad ha e2=>(h6 ad ha).2 (by rw [e2];exact hg)),λad ha=>⟨by rw [World.size_setCell];exact (h6 ad ha).1,(h6 ad ha).2⟩⟩
def jw (w w':World) (b mb:Nat) (p:PS) (X:Nat->Prop):Prop:=w.grownBy w' (some mb)/\bP w' b mb p X
theorem jw.ext {w w':World} {b mb:Nat} {p:PS} {X:Nat->Prop} (h:jw w w' b mb p X) (hp:bP w b mb p X):Ext w w':=hp.memo.ext h.1
theorem KU {w w':World} {b mb:Nat} {p:PS} {X:Nat->Prop} (hp:bP w b mb p X) (hb:Below w.heap.size w w'):jw w w' b mb p X:=⟨fM (ni w _) hb,hp.below hb⟩
theorem jw.trans {w w1 w2:World} {b mb:Nat} {p:PS} {X:Nat->Prop} (h:jw w w1 b mb p X) (h2:jw w1 w2 b mb p X):jw w w2 b mb p X:=⟨grow_step h.1 h2.1 (.inl rfl),h2.2⟩
theorem jw.below {w w1 w2:World} {b mb:Nat} {p:PS} {X:Nat->Prop} (h:jw w w1 b mb p X) (h2:Below w1.heap.size w1 w2):jw w w2 b mb p X:=h.trans (KU h.2 h2)
def acz (w w':World) (l:List Int) (e:Ending):Prop:=(∃ A n c,e=.returned (.slice A n c)/\Ints w' A n l/\∀ ad,A=some ad->w.heap.size<=ad.block/\ad.block < w'.heap.size)/\Below w.heap.size w w'
theorem ajM (nd:Int) (A:Option Addr) (n c:Nat) (l:List Ro) (s k:Int) (w:World) (hl:jf w A n l) (hn:n<=1000000000) :
  Calls Tryz.prog 192 #[.agg #[.int .i64 nd,.slice A n c],.int .i64 s,.int .i64 k] w λe w'=>acz w w' (K.times nd l s k) e:=by
 have b0:=(Below.refl w.heap.size w).alloc (zG _) (.cells #[.int .i64 nd,.slice A n c] 24);have hP:=Net.new w nd A n c;have p0:=hP.c0;have p1:=hP.c1;cases h1:(K.aG nd l == 0)
 ·have HX:=zC (K.Cb (s:=s) (k:=k) (show (K.aG nd l == 0 && T.aC s 0 (nd - 1))=false by simp [h1]));have h1':(K.aG nd l != 0)=true:=by simp [bne,h1]
  go_enter Tryz.func192,Tryz.ntmps192;go_wp2_with fail;refine (uM nd A n c l _ (hl.below b0) hn).mono ?_;rintro e w1 ⟨rfl,hb1⟩;go_wp2_with fail;go_ret;exact ⟨⟨none,0,0,rfl,by rw [HX.out];exact gK _,λad e=>(nomatch e)⟩,bel b0 hb1⟩
 ·have h1':(K.aG nd l != 0)=false:=by simp [bne,h1]
  have hne:K.aG nd l=0:=by simpa using h1
  have HE:=zC hne;obtain ⟨⟨n0,n1⟩,bJ,oO,hmin⟩:=K.Ff hne;clear hne;cases h2:T.aC s 0 (nd - 1)
  ·have HX:=zC (K.Cb (k:=k) (show (K.aG nd l == 0 && T.aC s 0 (nd - 1))=false by simp [h2]));go_enter Tryz.func192,Tryz.ntmps192;go_wp2_with fail;refine (uM nd A n c l _ (hl.below b0) hn).mono ?_;rintro e w1 ⟨rfl,hb1⟩;have hP1:=hP.below hb1;have p0:=hP1.c0;have p1:=hP1.c1;go_wp2_with fail;refine (su _ _ _ _).mono ?_;rintro e w' ⟨rfl,rfl⟩;go_wp2_with fail;go_ret;exact ⟨⟨none,0,0,rfl,by rw [HX.out];exact gK _,λad e=>(nomatch e)⟩,bel b0 hb1⟩
  ·obtain ⟨s0,s1⟩:=T.jA.1 h2;obtain ⟨m,rfl⟩:∃ m:Nat,nd=(m:Int):=⟨nd.toNat,by omega⟩;obtain ⟨t,rfl⟩:∃ t:Nat,s=(t:Int):=⟨s.toNat,by omega⟩;have HT:=zC (K.KL (k:=k) HE.out h2);have HF:=zC oO;have HM:=zC hmin;clear oO hmin;go_enter Tryz.func192,Tryz.ntmps192;go_wp2_with fail;refine (uM m A n c l _ (hl.below b0) hn).mono ?_;rintro e w1 ⟨rfl,hb1⟩;have hP1:=hP.below hb1;have p0:=hP1.c0;have p1:=hP1.c1;go_wp2_with fail;refine (su _ _ _ _).mono ?_;rintro e w' ⟨rfl,rfl⟩;go_wp2_with fail;refine (abC m A n c l t k _ (hl.below (bel b0 hb1)) (by rw [hl.1];omega) (by omega) HF.out HM.out (by omega)).mono ?_;rintro e w2 ⟨g,out,rfl,hg,hI,hD,hb2⟩;have HE2:=zC (G.sN.eq HT.out hD);have hol:=hD.1;have lC:=zC hol;clear hD hol;go_wp2_with fail;go_ret;have hi:=hI.ints;rw [lC.out] at hi;have hs1:=(bel b0 hb1).size;exact ⟨⟨_,_,_,rfl,by rw [HE2.out];exact hi,λad e=>by injection e with e;subst e;exact ⟨Nat.le_trans hs1 hg,hI.lt⟩⟩,bel (bel b0 hb1) hb2⟩
end Go.Proofs.YtippdjmpkafifaaGreat
namespace Go.Proofs.YtippdjmpkafifaaGreat
open Go.RowKit
namespace K
theorem fU {nd:Int} {l:List Ro} {s:S} {r:List Q} {v:List Int} (h:aP nd l s r v=true):aG nd l=0/\T.check s=0/\s.ag < nd/\(∀ q ∈ r,T.right q=true)/\v.length<=6/\jI nd r (-1) v=true:=by
 simp only [aP,Bool.and_eq_true,beq_iff_eq,decide_eq_true_eq,Bool.not_eq_true',List.any_eq_false] at h;exact ⟨h.1,h.2.1,h.2.2.1,λq hq=>by have:=h.2.2.2.1 q hq;simpa using this,h.2.2.2.2.1,h.2.2.2.2.2⟩
end K
theorem ah2 (q:Q) (w:World) (hl:fB w q.A q.n q.l) (hn:q.n<=1000000000) :
  Calls Tryz.prog 174 #[.agg #[.int .i64 q.node,.int .i64 q.room,.int .i64 q.aF,.int .i64 q.service,.int .i64 q.aB,.int .i64 q.aA,.slice q.A q.n q.c]] w λe w'=>e=.returned (.bool (!T.right q))/\Below w.heap.size w w':=by
 go_enter Tryz.func174,Tryz.ntmps174;go_wp2_with fail;refine (RQ q _ (hl.below ?_) hn).mono ?_
 ·exact (Below.refl _ _).alloc (zG _) _
 rintro e w1 ⟨rfl,hb1⟩;go_wp2_with fail;go_ret;exact ⟨rfl,bel ((Below.refl _ _).alloc (zG _) _) hb1⟩
theorem af1 (A:Option Addr) (n c:Nat) (l:List Q) (w:World) (hl:bW w A n l) (hn:n<=1000000000) (hq:∀ q ∈ l,q.n<=1000000000) :
  Calls Tryz.prog 202 #[.slice A n c,.func (.func 174) #[] #[]] w λe w'=>(∃ i:Int,e=.returned (.int .i64 i)/\(decide (0<=i))=l.any λq=>!T.right q)/\Below w.heap.size w w':=by
 go_enter Tryz.func202,Tryz.ntmps202;go_wp2_with fail;go_loopw [8] (λvi wr=>∃ k:Nat,vi=.int .i64 k/\k<=n/\Hid ((l.any λq=>!T.right q)=(l.drop k).any λq=>!T.right q)/\Below w.heap.size w wr) (λvi _=>n - (intOf vi).toNat)
 case atStart=>exact ⟨0,rfl,by omega,by show _=_;rw [List.drop_zero],Below.refl _ _⟩
 case round =>
  obtain ⟨k,rfl,hk,hr,hbr⟩:=hrel;by_cases hlt:k < n
  ·obtain ⟨ad,q,rfl,hg,hwq,c0,c1,c2,c3,c4,c5,c6⟩:=(hl.below hbr).at_ hlt;have dL:=hq q (zD hg);have HS:=zC (lJ (p:=λq=>!T.right q) hg);clear hg;go_wp2_with fail;refine (ah2 q _ hwq dL).mono ?_;rintro e w1 ⟨rfl,hb1⟩;cases hpx:T.right q
   ·go_wp2_with fail;go_ret;exact ⟨⟨k,rfl,by rw [hr.out,HS.out,hpx];simp⟩,bel hbr hb1⟩
   ·go_wp2_with fail;go_roundw
    case rel=>exact ⟨k + 1,by go_num,by omega,by show _=_;rw [hr.out,HS.out,hpx];rfl,bel hbr hb1⟩
    case measure=>simp [intOf];omega
  ·have hd:l.drop k=[]:=List.drop_eq_nil_of_le (by rw [<-hl.1];omega);have HD:=zC hd;clear hd;go_wp2_with fail;go_ret;exact ⟨⟨-1,rfl,by rw [hr.out,HD.out];rfl⟩,hbr⟩
theorem adZ (A:Option Addr) (n c:Nat) (l:List Q) (w:World) (hl:bW w A n l) (hn:n<=1000000000) (hq:∀ q ∈ l,q.n<=1000000000) :
  Calls Tryz.prog 175 #[.slice A n c,.func (.func 174) #[] #[]] w λe w'=>e=.returned (.bool (l.any λq=>!T.right q))/\Below w.heap.size w w':=by
 go_enter Tryz.func175,Tryz.ntmps175;go_wp2_with fail;refine (af1 A n c l _ hl hn hq).mono ?_;rintro e w1 ⟨⟨i,rfl,hi⟩,hb1⟩;go_wp2_with fail;go_ret;exact ⟨rfl,hb1⟩
def Uh (x:C) (V:Option Addr) (vn vc:Nat) (v:List Int) (w w':World) (e:Ending):Prop :=
 ((K.aP x.nd x.l x.s x.r v=false/\e=.returned (.tuple #[.pointer none,.bool false])) \/
  ∃ b mb,e=.returned (.tuple #[.pointer (some ⟨b,0,none⟩),.bool true])/\w.heap.size<=b/\w.heap.size<=mb/\(∀ X,bP w' b mb ⟨x,V,vn,vc,v⟩ X))/\Below w.heap.size w w'
theorem sG {x:C} {V:Option Addr} {vn vc:Nat} {v:List Int} {w w':World} (h:K.aP x.nd x.l x.s x.r v=false) (hb:Below w.heap.size w w'):Uh x V vn vc v w w' (.returned (.tuple #[.pointer none,.bool false])):=⟨.inl ⟨h,rfl⟩,hb⟩
theorem Q_ (x:C) (V:Option Addr) (vn vc:Nat) (v:List Int) (w:World) (hx:At w x) (hV:Ints w V vn v) (lg:vn<=vc) (hvn:vn<=1000000000) :
  Calls Tryz.prog 128 #[.agg #[.int .i64 x.nd,.slice x.A x.n x.c],.agg #[.int .i64 x.s.day,.int .i64 x.s.ag,.int .i64 x.s.start,.int .i64 x.s.end_,.int .i64 x.s.aj,.slice x.s.A x.s.n x.s.c],.slice x.B x.m x.d,.slice V vn vc] w λe w'=>Uh x V vn vc v w w' e:=by
 have b0:=((Below.refl w.heap.size w).alloc (zG _) (.cells #[.int .i64 x.nd,.slice x.A x.n x.c] 24)).alloc (by rw [World.size_alloc];omega) (.cells #[.int .i64 x.s.day,.int .i64 x.s.ag,.int .i64 x.s.start,.int .i64 x.s.end_,.int .i64 x.s.aj,.slice x.s.A x.s.n x.s.c] 63);have SZ:=World.size_alloc w (.cells #[.int .i64 x.nd,.slice x.A x.n x.c] 24);have hP:=(Net.new w x.nd x.A x.n x.c).below ((Below.refl _ _).alloc (zG _) (.cells #[.int .i64 x.s.day,.int .i64 x.s.ag,.int .i64 x.s.start,.int .i64 x.s.end_,.int .i64 x.s.aj,.slice x.s.A x.s.n x.s.c] 63));have hS:=aT.new (w.alloc (.cells #[.int .i64 x.nd,.slice x.A x.n x.c] 24)) x.s;rw [SZ] at hS;have p0:=hP.c0;have p1:=hP.c1;go_enter Tryz.func128,Tryz.ntmps128;go_wp2_with fail;obtain ⟨w0,hw0⟩:=zB ((w.alloc (.cells #[.int .i64 x.nd,.slice x.A x.n x.c] 24)).alloc (.cells #[.int .i64 x.s.day,.int .i64 x.s.ag,.int .i64 x.s.start,.int .i64 x.s.end_,.int .i64 x.s.aj,.slice x.s.A x.s.n x.s.c] 63));rw [<-hw0] at b0 hP hS ⊢;clear hw0 p0 p1 SZ;refine (uM x.nd x.A x.n x.c x.l _ (aQ.below hx.net b0) hx.b1).mono ?_;rintro e w1 ⟨rfl,b1⟩;have hP:=hP.below b1;have hS:=hS.below b1;have hb:=bel b0 b1;clear b0 b1;obtain ⟨s0,s1,s2,s3,s4,s5⟩:=hS.cells;cases h1:(K.aG x.nd x.l == 0)
 ·have h1':(K.aG x.nd x.l != 0)=true:=by simp [bne,h1]
  have HX:=zC (show K.aP x.nd x.l x.s x.r v=false by simp [K.aP,h1]);go_wp2_with fail;go_ret2
  exact sG HX.out hb
 have h1':(K.aG x.nd x.l != 0)=false:=by simp [bne,h1]
 go_wp2_with fail;refine (check_any x.s _ (hx.below hb).g_ hx.b2).mono ?_;rintro e w2 ⟨rfl,b2⟩;have hP:=hP.below b2;have hS:=hS.below b2;have hb:=bel hb b2;clear b2 s0 s1 s2 s3 s4 s5;have p0:=hP.c0;obtain ⟨s0,s1,s2,s3,s4,s5⟩:=hS.cells;cases h2:(T.check x.s == 0)
 ·have h2':(T.check x.s != 0)=true:=by simp [bne,h2]
  have HX:=zC (show K.aP x.nd x.l x.s x.r v=false by simp [K.aP,h2]);go_wp2_with fail;go_ret2
  exact sG HX.out hb
 have h2':(T.check x.s != 0)=false:=by simp [bne,h2]
 cases h3:decide (x.nd<=x.s.ag);rotate_left
 ·have h3':x.nd<=x.s.ag:=of_decide_eq_true h3;have HX:=zC (show K.aP x.nd x.l x.s x.r v=false by simp [K.aP];intros;omega);go_wp2_with fail;go_ret2
  exact sG HX.out hb
 have h3':¬ x.nd<=x.s.ag:=of_decide_eq_false h3;go_wp2_with fail;refine (adZ x.B x.m x.d x.r _ (hx.below hb).aN hx.b3 hx.b4).mono ?_;rintro e w3 ⟨rfl,b3⟩;have hP:=hP.below b3;have hS:=hS.below b3;have hb:=bel hb b3;clear b3 s0 s1 s2 s3 s4 s5 p0;obtain ⟨s0,s1,s2,s3,s4,s5⟩:=hS.cells;cases h4:(x.r.any λq=>!T.right q);rotate_left
 ·have HX:=zC (show K.aP x.nd x.l x.s x.r v=false by simp only [K.aP,h4];simp);go_wp2_with fail;go_ret2
  exact sG HX.out hb
 cases h5:decide ((6:Int) < (vn:Int));rotate_left
 ·have h5':6 < vn:=by have:=of_decide_eq_true h5;omega
  have HX:=zC (show K.aP x.nd x.l x.s x.r v=false by simp [K.aP];intros;have:=hV.1;omega);go_wp2_with fail;go_ret2
  exact sG HX.out hb
 have h5':vn<=6:=by have:=of_decide_eq_false h5;omega
 have HX:=zC (show K.aP x.nd x.l x.s x.r v=K.jI x.nd x.r (-1) v by
  simp only [K.aP,h1,h2,h4];simp [show x.s.ag < x.nd by omega,show v.length<=6 by have:=hV.1;omega])
 clear h1 h2 h3 h4;have aK:=zC hV.1;go_wp2_with fail;go_loopw [40] (λv40 wr=>∃ k:Nat,v40=.int .i64 k/\k<=vn/\Hid (K.aP x.nd x.l x.s x.r v=K.jI x.nd x.r (K.prev v k) (v.drop k))/\Below w3.heap.size w3 wr) (λv40 _=>vn - (intOf v40).toNat)
 case atStart=>exact ⟨0,rfl,by omega,HX.out,Below.refl _ _⟩
 case round =>
  clear HX s0 s1 s2 s3 s4 s5;obtain ⟨k,rfl,hk,hr,hbr⟩:=hrel;have hbw:=bel hb hbr;have wQ:=hP.below hbr;have p0:=wQ.c0;by_cases hlt:k < vn
  ·obtain ⟨iM,i,rfl,hi,ci⟩:=(hV.below hbw).at_ hlt;have HR:=zC (show K.aP x.nd x.l x.s x.r v=_ from hr.out.trans (K.ajl hi (K.prev v k)));have aV:=zC (show K.prev v (k + 1)=i by simp [K.prev,hi]);have HI:=zC hi;clear hi hr;have k0:(0:Int)<=(k:Int):=by omega
   have k1:(k:Int) < (vn:Int):=by omega
   cases c1:decide (i < 0);rotate_left
   ·have HX:=zC (show K.aP x.nd x.l x.s x.r v=false by rw [HR.out];have:=of_decide_eq_true c1;simp;omega);go_wp2_with fail;go_quiet (fail);go_wp2_with fail;go_ret2
    exact sG HX.out (below_drewN hbw _)
   have hi0:¬ i < 0:=of_decide_eq_false c1;obtain ⟨j,rfl⟩:∃ j:Nat,i=(j:Int):=⟨i.toNat,by omega⟩;cases c2:decide (x.m<=j);rotate_left
   ·have c2':decide ((x.m:Int)<=(j:Int))=true:=by simpa using c2
    have HX:=zC (show K.aP x.nd x.l x.s x.r v=false by rw [HR.out];have:=of_decide_eq_true c2;have:=hx.aN.1;simp;omega);go_wp2_with fail;go_quiet (fail);go_wp2_with fail;go_ret2
    exact sG HX.out (below_drewN hbw _)
   have c2':decide ((x.m:Int)<=(j:Int))=false:=by simpa using c2
   have hjm:j < x.m:=by have:=of_decide_eq_false c2;omega
   obtain ⟨ad,q,hB,hgq,-,e0,-⟩:=(hx.aN.below hbw).at_ hjm;have dB:=zC (K.jH hgq);have j0:(0:Int)<=(j:Int):=by omega
   have j1:(j:Int) < (x.m:Int):=by omega
   have hrl:x.m=x.r.length:=hx.aN.1;have pJ:=zC hrl;clear hgq hrl;rw [hB];cases c5:decide (x.nd<=q.node)
   ·have h5:¬ x.nd<=q.node:=of_decide_eq_false c5;rcases Nat.eq_zero_or_pos k with hk0 | hk0
    ·have k2:decide ((0:Int) < (k:Int))=false:=by simp;omega
     have EN:decide (0 < k)=false:=by simp;omega
     have Gt:=zC hk0;clear hk0;have HN:=zC (show K.aP x.nd x.l x.s x.r v=K.jI x.nd x.r (K.prev v (k + 1)) (v.drop (k + 1)) by
      rw [HR.out,dB.out,aV.out,show K.prev v k=-1 by rw [Gt.out];rfl];simp [show j < x.r.length by rw [<-pJ.out];exact hjm,show q.node < x.nd by omega,show (-1:Int) < (j:Int) by omega])
     go_wp2_with fail;go_quiet (fail);go_wp2_with fail;go_roundw
     case rel=>exact ⟨k + 1,by go_num,by omega,HN.out,below_drewN hbr _⟩
     case measure=>simp [intOf];omega
    ·obtain ⟨kp,hkp⟩:∃ kp:Nat,k=kp + 1:=⟨k - 1,by omega⟩;obtain ⟨Uw,pv,ep,hp,cp⟩:=(hV.below hbw).at_ (k:=kp) (by omega);injection ep with ep;subst ep;have Dc:=zC (show K.prev v k=pv by rw [hkp];simp [K.prev,hp]);have k2:decide ((0:Int) < (k:Int))=true:=by simp;omega
     have EN:decide (0 < k)=true:=by simp;omega
     have k3:IntKind.i64.wrap ((k:Int) - 1)=(kp:Int):=by rw [IntWalk.i64_in _ (by omega)];omega
     have k4:(kp:Int) < (vn:Int):=by omega
     have k5:(0:Int)<=(kp:Int):=by omega
     have Tt:=zC hkp;clear hp hkp;cases c4:decide ((j:Int)<=pv)
     ·have HN:=zC (show K.aP x.nd x.l x.s x.r v=K.jI x.nd x.r (K.prev v (k + 1)) (v.drop (k + 1)) by
       have:=of_decide_eq_false c4;rw [HR.out,dB.out,aV.out,Dc.out];simp [show j < x.r.length by rw [<-pJ.out];exact hjm,show q.node < x.nd by omega,show pv < (j:Int) by omega])
      go_wp2_with fail;go_quiet (fail);go_wp2_with fail;go_roundw
      case rel=>exact ⟨k + 1,by go_num,by omega,HN.out,below_drewN hbr _⟩
      case measure=>simp [intOf];omega
     ·have HX:=zC (show K.aP x.nd x.l x.s x.r v=false by rw [HR.out,Dc.out];have:=of_decide_eq_true c4;simp;omega);go_wp2_with fail;go_quiet (fail);go_wp2_with fail;go_ret2
      exact sG HX.out (below_drewN hbw _)
   ·have HX:=zC (show K.aP x.nd x.l x.s x.r v=false by rw [HR.out,dB.out];have:=of_decide_eq_true c5;simp;omega);rcases Nat.eq_zero_or_pos k with hk0 | hk0
    ·have k2:decide ((0:Int) < (k:Int))=false:=by simp;omega
     have EN:decide (0 < k)=false:=by simp;omega
     have Gt:=zC hk0;clear hk0;go_wp2_with fail;go_quiet (fail);go_wp2_with fail;go_ret2
     exact sG HX.out (below_drewN hbw _)
    ·obtain ⟨kp,hkp⟩:∃ kp:Nat,k=kp + 1:=⟨k - 1,by omega⟩;obtain ⟨Uw,pv,ep,hp,cp⟩:=(hV.below hbw).at_ (k:=kp) (by omega);injection ep with ep;subst ep;have k2:decide ((0:Int) < (k:Int))=true:=by simp;omega
     have EN:decide (0 < k)=true:=by simp;omega
     have k3:IntKind.i64.wrap ((k:Int) - 1)=(kp:Int):=by rw [IntWalk.i64_in _ (by omega)];omega
     have k4:(kp:Int) < (vn:Int):=by omega
     have k5:(0:Int)<=(kp:Int):=by omega
     have Tt:=zC hkp;clear hp hkp;cases c4:decide ((j:Int)<=pv)
     all_goals
      go_wp2_with fail;go_quiet (fail);go_wp2_with fail;go_ret2
      exact sG HX.out (below_drewN hbw _)
  ·have HN:=zC (show K.aP x.nd x.l x.s x.r v=true by rw [hr.out,List.drop_eq_nil_of_le (by rw [<-aK.out];omega)];rfl);have hSr:=hS.below hbr;have p1:=wQ.c1;obtain ⟨s0,s1,s2,s3,s4,s5⟩:=hSr.cells;have hmm:=@run_makeMap Tryz.prog;have bm:Below wr.heap.size wr (wr.alloc (.map #[] 0)):=(Below.refl _ _).alloc (zG _) _;have hM:∀ X,dH (wr.alloc (.map #[] 0)) wr.heap.size x.nd x.l X:=λX=>⟨#[],0,heap_alloc_new _ _,λe he=>by simp at he⟩;have hz:(wr.alloc (.map #[] 0)).heap.size=wr.heap.size + 1:=World.size_alloc _ _;have HZ:=zC hz;clear hz;obtain ⟨wm,hwm⟩:=zB (wr.alloc (.map #[] 0));rw [<-hwm] at bm hM HZ;have WU:=wQ.below bm;have hSm:=hSr.below bm;have hbm:=bel hbw bm;have hs9:=hbw.size;go_wp2_with fail;rw [<-hwm,<-HZ.out];go_ret2
   clear hwm hmm;have b9:Below wm.heap.size wm (wm.alloc (.cells #[.int .i64 x.nd,.slice x.A x.n x.c,.int .i64 x.s.day,.int .i64 x.s.ag,.int .i64 x.s.start,.int .i64 x.s.end_,.int .i64 x.s.aj,.slice x.s.A x.s.n x.s.c,.slice x.B x.m x.d,.slice V vn vc,.map (some wr.heap.size)] 213)):=(Below.refl _ _).alloc (zG _) _;refine ⟨.inr ⟨wm.heap.size,wr.heap.size,rfl,by rw [HZ.out];omega,hs9,λX=>?_⟩,bel hbm b9⟩;exact ⟨(hx.below (bel hbm b9)),hV.below (bel hbm b9),heap_alloc_new _ _,(hM X).below b9,HN.out,lg⟩
namespace K
def part:List Int->Nat->List Int
 | [],_=>[]
 | i :: r,m=>if m.testBit 0=true then i :: part r (m / 2) else part r (m / 2)
theorem BO (i:Int):∀ (l:List Int) (m:Nat),part (l ++ [i]) m=part l m ++ if m.testBit l.length=true then [i] else []
 | [],m=>by simp [part]
 | j :: r,m=>by
  have ih:=BO i r (m / 2);have hb:m.testBit (r.length + 1)=(m / 2).testBit r.length:=Nat.testBit_succ _ _;simp only [List.cons_append,part,List.length_cons,ih,hb];split <;> simp
theorem nN:∀ (l:List Int) (m:Nat),(part l m).length<=l.length
 | [],_=>zG _
 | j :: r,m=>by
  have ih:=nN r (m / 2);simp only [part,List.length_cons];split <;> simp <;> omega
theorem Q5:∀ (l:List Int) (m:Nat),(part l m).Sublist l
 | [],_=>List.Sublist.refl _
 | j :: r,m=>by
  have ih:=Q5 r (m / 2);simp only [part];split
  ·exact ih.cons_cons _
  ·exact ih.cons _
end K
theorem ac6:∀ m:Fin 256,∀ k:Fin 8,bits .and .i64 ((m.val:Int) / 2 ^ k.val) 1=if m.val.testBit k.val=true then 1 else 0:=by decide +kernel
theorem ac8:∀ m:Fin 64,∀ k:Fin 6,m.val.testBit k.val=true->bits .andNot .i64 (m.val:Int) (2 ^ k.val)=((m.val - 2 ^ k.val:Nat):Int):=by decide +kernel
theorem ac9:∀ m:Fin 64,∀ k:Fin 6,m.val.testBit k.val=false->bits .or .i64 (m.val:Int) (2 ^ k.val)=((m.val + 2 ^ k.val:Nat):Int):=by decide +kernel
theorem lI {m k:Nat} (hm:m < 256) (hk:k < 8):bits .and .i64 ((m:Int) / 2 ^ k) 1=if m.testBit k=true then 1 else 0:=ac6 ⟨m,hm⟩ ⟨k,hk⟩
theorem ac7 {m k:Nat} (hm:m < 64) (hk:k < 6) (h:m.testBit k=true):bits .andNot .i64 (m:Int) (2 ^ k)=((m - 2 ^ k:Nat):Int):=ac8 ⟨m,hm⟩ ⟨k,hk⟩ h
theorem Hy {m k:Nat} (hm:m < 64) (hk:k < 6) (h:m.testBit k=false):bits .or .i64 (m:Int) (2 ^ k)=((m + 2 ^ k:Nat):Int):=ac9 ⟨m,hm⟩ ⟨k,hk⟩ h
theorem aai (b mb:Nat) (p:PS) (m:Nat) (w:World) {X:Nat->Prop} (hp:bP w b mb p X) (hm:m < 256) :
  Calls Tryz.prog 191 #[.pointer (some ⟨b,0,none⟩),.int .i64 m] w λe w'=>GU w w' (K.part p.l m) e:=by
 obtain ⟨c0,c1,c2,c3,c4,c5,c6,c7,c8,c9,c10⟩:=hp.blk.cells;obtain ⟨hne,hck,hdp,hrq,bJ,hgo⟩:=K.fU hp.ok;have hset:=hp.set;have aK:=zC hset.1;have kH:p.n<=6:=by rw [hset.1];exact bJ
 clear hne hck hdp hrq bJ hgo;go_enter Tryz.func191,Tryz.ntmps191;go_wp2_with fail;go_loopw [5,13] (λv5 v13 wr=>∃ (k:Nat),v13=.int .i64 k/\k<=p.n/\wr.ownsRow w.heap.size 3 1 v5 (K.part (p.l.take k) m).length (intCells (K.part (p.l.take k) m))/\Below w.heap.size w wr) (λ_ v13 _=>p.n - (intOf v13).toNat)
 case atStart=>exact ⟨0,rfl,by omega,World.ownsRow_nil _ _ _ _,Below.refl _ _⟩
 case round =>
  clear c0 c1 c2 c3 c4 c5 c6 c7 c8 c9 c10;obtain ⟨k,rfl,hk,hown,hbr⟩:=hrel;by_cases hlt:k < p.n
  ·obtain ⟨iM,i,hA,hi,ci⟩:=(hset.below hbr).at_ hlt;have k0:(0:Int)<=(k:Int):=by omega
   have k1:(k:Int) < (p.n:Int):=by omega
   have HT:=zC (take_snoc hi);have pM:=zC (show (p.l.take k).length=k by rw [List.length_take,<-aK.out];omega);have hpl:(K.part (p.l.take k) m).length<=6:=by have:=K.nN (p.l.take k) m;rw [pM.out] at this;omega
   clear hi;cases hbit:m.testBit k
   ·have hb1:bits BinOp.and IntKind.i64 ((m:Int) / 2 ^ k) 1=0:=by rw [lI hm (by omega),hbit];rfl
    have HN:=zC (show K.part (p.l.take (k + 1)) m=K.part (p.l.take k) m by rw [HT.out,K.BO,pM.out,hbit];simp);clear hbit;rw [hA];go_wp2_with fail;go_roundw
    case rel=>exact ⟨k + 1,by go_num,by omega,by rw [HN.out];exact hown,hbr⟩
    case measure=>simp [intOf];omega
   ·have hb1:bits BinOp.and IntKind.i64 ((m:Int) / 2 ^ k) 1=1:=by rw [lI hm (by omega),hbit];rfl
    have HN:=zC (show K.part (p.l.take (k + 1)) m=K.part (p.l.take k) m ++ [i] by rw [HT.out,K.BO,pM.out,hbit];simp);have ha:Below wr.heap.size wr (wr.alloc (.cells #[.int .i64 i] 3)):=(Below.refl _ _).alloc (zG _) _;have hown2:=own_below hown ha;have hs2:w.heap.size<=(wr.alloc (.cells #[.int .i64 i] 3)).heap.size:=Nat.le_trans hbr.size ha.size;clear hbit;rw [hA];go_wp2_with (at_builtin;refine rq rfl (.tmp 23) (.tmp 25) rfl w.heap.size u5 (K.part (p.l.take k) m).length (K.part (p.l.take k) m) rfl hown2 wr.heap.size i rfl (bI _ _ _ rfl) (by omega) hs2 ?_;intro tv' w6 hown6 hgrow6 gW);have b6:=a_ (bel hbr ha) hgrow6 (λg e=>(hown.lt g e).1);have HS:=zC (show (K.part (p.l.take k) m).length + 1=(K.part (p.l.take (k + 1)) m).length by rw [HN.out,List.length_append];rfl);rw [<-HN.out,HS.out] at hown6;clear hgrow6 gW hown2 hown;go_roundw
    case rel=>exact ⟨k + 1,by go_num,by omega,hown6,b6⟩
    case measure=>simp [intOf];omega
  ·have HN:=zC (show p.l.take k=p.l by exact List.take_of_length_le (by rw [<-aK.out];omega));rw [HN.out] at hown;obtain ⟨A9,c9,rfl,hI⟩:=mJ hown rfl;go_wp2_with fail;go_ret;exact ⟨⟨_,_,_,rfl,hI⟩,hbr⟩
def iU (w:World) (b:Nat) (x:C) (w':World):Prop :=
 Below w.heap.size w w'/\w'.cell? ⟨b,0,none⟩=some (.int .i64 x.nd)/\w'.cell? ⟨b,1,none⟩=some (.slice x.A x.n x.c)/\w'.cell? ⟨b + 1,0,none⟩=some (.int .i64 x.s.day)/\w'.cell? ⟨b + 1,1,none⟩=some (.int .i64 x.s.ag)/\w'.cell? ⟨b + 1,2,none⟩=some (.int .i64 x.s.start) /\
  w'.cell? ⟨b + 1,3,none⟩=some (.int .i64 x.s.end_)/\w'.cell? ⟨b + 1,4,none⟩=some (.int .i64 x.s.aj)/\w'.cell? ⟨b + 1,5,none⟩=some (.slice x.s.A x.s.n x.s.c)
theorem iU.mk' {w:World} {b:Nat} {x:C} (hP:Net w b x.nd x.A x.n x.c) (hS:aT w (b + 1) x.s) {w':World} (hb:Below w.heap.size w w'):iU w b x w':=by
 have h1:=hP.below hb;have h2:=hS.below hb;obtain ⟨s0,s1,s2,s3,s4,s5⟩:=h2.cells;exact ⟨hb,h1.c0,h1.c1,s0,s1,s2,s3,s4,s5⟩
theorem gI {w:World} {g:Nat} {cs:Array Value} {t:TypeId} (h:w.heap[g]? = some (.cells cs t (0,0))) (i:Nat):w.frozen? ⟨g,i,none⟩=false:=by simp [World.frozen?,h]
theorem Ints.take {w:World} {A:Option Addr} {n:Nat} {l:List Int} (h:Ints w A n l) {k:Nat} (hk:k<=n):Ints w A k (l.take k):=by
 refine ⟨by rw [List.length_take,<-h.1];omega,by simp [intCells];have:=h.1;omega,λh0=>?_⟩;obtain ⟨ad,e,hc⟩:=h.2.2 (by omega);refine ⟨ad,e,λj u hu=>hc j u ?_⟩;rw [intCells,List.map_take,List.getElem?_take] at hu;split at hu
 ·exact hu
 ·cases hu
theorem Ce {k:Int} (h0:-4000000000<=k) (h1:k<=4000000000):(Lit.int .i64 k).wf=true:=by
 have e1:IntKind.i64.min=-9223372036854775808:=by decide
 have e2:IntKind.i64.max=9223372036854775807:=by decide
 simp only [Lit.wf,decide_eq_true_eq,Bool.and_eq_true];omega
theorem K.ZH {nd:Int} {l:List Ro} (h:K.aG nd l=0):0<=nd/\nd<=100:=by
 unfold K.aG at h;cases hb:T.aC nd 0 100
 ·rw [if_pos hb] at h;cases h
 ·simpa [T.aC] using hb
def LP (w:World) (b mb:Nat) (p:PS) (w':World):Prop:=Below w.heap.size w w'/\w'.cell? ⟨b,0,none⟩=some (.int .i64 p.x.nd)/\w'.cell? ⟨b,1,none⟩=some (.slice p.x.A p.x.n p.x.c)/\w'.cell? ⟨b,2,none⟩=some (.int .i64 p.x.s.day)/\w'.cell? ⟨b,3,none⟩=some (.int .i64 p.x.s.ag)/\w'.cell? ⟨b,4,none⟩=some (.int .i64 p.x.s.start) /\
  w'.cell? ⟨b,5,none⟩=some (.int .i64 p.x.s.end_)/\w'.cell? ⟨b,6,none⟩=some (.int .i64 p.x.s.aj)/\w'.cell? ⟨b,7,none⟩=some (.slice p.x.s.A p.x.s.n p.x.s.c)/\w'.cell? ⟨b,8,none⟩=some (.slice p.x.B p.x.m p.x.d)/\w'.cell? ⟨b,9,none⟩=some (.slice p.A p.n p.c)/\w'.cell? ⟨b,10,none⟩=some (.map (some mb))
theorem LP.mk' {w:World} {b mb:Nat} {p:PS} (hp:vW w b mb p) {w':World} (hb:Below w.heap.size w w'):LP w b mb p w':=⟨hb,vW.cells (w:=w') (az hb hp)⟩
def LQ (w:World) (b mb g:Nat) (fr wt:Int) (p:PS) (w':World):Prop:=Below w.heap.size w w'/\w'.cell? ⟨g,0,none⟩=some (.int .i64 fr)/\w'.cell? ⟨g,1,none⟩=some (.int .i64 wt)/\w'.cell? ⟨b,0,none⟩=some (.int .i64 p.x.nd)/\w'.cell? ⟨b,1,none⟩=some (.slice p.x.A p.x.n p.x.c)/\w'.cell? ⟨b,2,none⟩=some (.int .i64 p.x.s.day)/\w'.cell? ⟨b,3,none⟩=some (.int .i64 p.x.s.ag)/\w'.cell? ⟨b,4,none⟩=some (.int .i64 p.x.s.start) /\
  w'.cell? ⟨b,5,none⟩=some (.int .i64 p.x.s.end_)/\w'.cell? ⟨b,6,none⟩=some (.int .i64 p.x.s.aj)/\w'.cell? ⟨b,7,none⟩=some (.slice p.x.s.A p.x.s.n p.x.s.c)/\w'.cell? ⟨b,8,none⟩=some (.slice p.x.B p.x.m p.x.d)/\w'.cell? ⟨b,9,none⟩=some (.slice p.A p.n p.c)/\w'.cell? ⟨b,10,none⟩=some (.map (some mb))
def Ag (w:World) (g:Nat) (fr wt:Int):Prop:=w.heap[g]? = some (.cells #[.int .i64 fr,.int .i64 wt] 224 (0,0))
theorem LQ.mk' {w:World} {b mb g:Nat} {fr wt:Int} {p:PS} (hp:vW w b mb p) (hT:Ag w g fr wt) {w':World} (hb:Below w.heap.size w w'):LQ w b mb g fr wt p w' :=
 ⟨hb,af (az hb hT) 0 _ rfl,af (az hb hT) 1 _ rfl,vW.cells (w:=w') (az hb hp)⟩
def Un (w w':World) (b mb:Nat) (p:PS) (X:Nat->Prop) (y:Int) (e:Ending):Prop:=e=.returned (.tuple #[.int .i64 y,.bool (y != -1)])/\jw w w' b mb p X
theorem ab3 (b mb:Nat) (p:PS) (fr:Int) (tn m:Nat) (w:World) {X:Nat->Prop} (hp:bP w b mb p X) (hX:∀ g,X g->g < w.heap.size) (hm:m < 256) (hfr:0<=fr/\fr < p.x.nd) (hto:(tn:Int) < p.x.nd) (hwt:(Lit.int .i64 (T.weight p.x.s p.x.r (K.part p.l m))).wf=true) :
  Calls Tryz.prog 141 #[.pointer (some ⟨b,0,none⟩),.int .i64 fr,.int .i64 tn,.int .i64 m] w λe w'=>Un w w' b mb p X (K.way p.x.nd p.x.l fr (T.weight p.x.s p.x.r (K.part p.l m)) tn) e:=by
 obtain ⟨hne,hck,hdp,hrq,bJ,-⟩:=K.fU hp.ok;have hpl:(K.part p.l m).length<=6:=Nat.le_trans (K.nN _ _) bJ;have S0:=LP.mk' hp.blk (Below.refl w.heap.size w);have rJ:∀ w',LP w b mb p w'->bP w' b mb p X:=λw' h=>hp.below h.1;have lS:∀ w' w'',LP w b mb p w'->Below w'.heap.size w' w''->LP w b mb p w'':=λw' w'' h hb'=>LP.mk' hp.blk (bel h.1 hb');have hSd:∀ w',LP w b mb p w'->LP w b mb p w'.drew:=λw' h=>LP.mk' hp.blk h.1.drew;have dw:∀ w' o',LP w b mb p w'->LP w b mb p (w'.alloc o'):=λw' o' h=>LP.mk' hp.blk (bel h.1 ((Below.refl _ _).alloc (zG _) _));have oJ:∀ (w':World) (g i:Nat) (v:Value),LP w b mb p w'->w.heap.size<=g->LP w b mb p (w'.setCell ⟨g,i,none⟩ v):=λw' g i v h hg=>LP.mk' hp.blk (h.1.setCell hg _);obtain ⟨c1,c2,c3,c4⟩:p.x.n<=1000000000/\p.x.s.n<=1000000000/\p.x.m<=1000000000/\∀ q ∈ p.x.r,q.n<=1000000000:=⟨hp.at_.b1,hp.at_.b2,hp.at_.b3,hp.at_.b4⟩;obtain ⟨wt,Qi⟩:=zB (T.weight p.x.s p.x.r (K.part p.l m));rw [<-Qi] at hwt ⊢;have vS:=zC Qi;clear hck hdp hrq bJ Qi;go_enter Tryz.func141,Tryz.ntmps141;go_wp2_with fail;go_cut [10] from 13 to 26 (λv10 wc=>∃ g,v10=.pointer (some ⟨g,0,none⟩)/\w.heap.size<=g/\Ag wc g fr wt/\Below w.heap.size w wc)
 case first =>
  go_region_held3 (λw'=>Below w.heap.size w w'/\w'.cell? ⟨b,0,none⟩=some (.int .i64 p.x.nd)/\w'.cell? ⟨b,1,none⟩=some (.slice p.x.A p.x.n p.x.c)/\w'.cell? ⟨b,2,none⟩=some (.int .i64 p.x.s.day)/\w'.cell? ⟨b,3,none⟩=some (.int .i64 p.x.s.ag)/\w'.cell? ⟨b,4,none⟩=some (.int .i64 p.x.s.start) /\
  w'.cell? ⟨b,5,none⟩=some (.int .i64 p.x.s.end_)/\w'.cell? ⟨b,6,none⟩=some (.int .i64 p.x.s.aj)/\w'.cell? ⟨b,7,none⟩=some (.slice p.x.s.A p.x.s.n p.x.s.c)/\w'.cell? ⟨b,8,none⟩=some (.slice p.x.B p.x.m p.x.d)/\w'.cell? ⟨b,9,none⟩=some (.slice p.A p.n p.c)/\w'.cell? ⟨b,10,none⟩=some (.map (some mb)))
   (first | assumption | exact S0 | exact hSd _ (by assumption) | exact dw _ _ (by assumption) | exact dw _ _ (hSd _ S0) | exact oJ _ _ _ _ (oJ _ _ _ _ (by assumption) (by first | omega | exact hS1.1.size | exact hS2.1.size)) (by first | omega | exact hS1.1.size | exact hS2.1.size))
   (first
    | (go_at_call 191;refine (aai b mb p m _ (rJ _ ?_) hm).mono ?_;assumption;rintro e w3 ⟨⟨A9,n9,c9,rfl,hI⟩,hbn⟩;have hS1:=lS _ _ (by assumption) hbn;
        (first | (have hT1:=az hbn (heap_alloc_new _ (.cells #[.int .i64 0,.int .i64 0] 224))) | skip))
    | (go_at_call 190;refine (Sl p.x.s p.x.B p.x.m p.x.d p.x.r A9 n9 c9 (K.part p.l m) _ (rJ _ ?_).at_.g_ c2 (rJ _ ?_).at_.aN c3 c4 ?_ (by rw [hI.1];omega)).mono ?_;assumption;assumption;(first | exact hI | exact hI.below ((Below.refl _ _).alloc (zG _) _));rw [<-vS.out];rintro e w4 ⟨rfl,gX⟩;have hS2:=lS _ _ (by assumption) gX;
        (first | (have hT2:=az gX hT1) | (have hT2:=az gX (heap_alloc_new _ (.cells #[.int .i64 0,.int .i64 0] 224))) | skip);
        (first | (have hu0:=af hT2 0 _ rfl;have hu1:=af hT2 1 _ rfl;have huf:=gI hT2) | skip)))
  ·go_wp2_with fail;go_meet
   case rel=>exact ⟨_,rfl,hS2.1.size,heap_alloc_new _ _,bel hS2.1 ((Below.refl _ _).alloc (zG _) _)⟩
  ·have hg:_:=hS1.1.size;go_wp2_with fail;go_meet
   case rel=>exact ⟨_,rfl,hg,bg (bg hT2 0 _) 1 _,(hS2.1.setCell hg _).setCell hg _⟩
  ·have hg:_:=zG w.heap.size;go_wp2_with fail;go_meet
   case rel=>exact ⟨_,rfl,hg,bg (bg hT2 0 _) 1 _,(hS2.1.setCell hg _).setCell hg _⟩
 case rest =>
  obtain ⟨g,rfl,hg,hT,hb⟩:=hcut;have hpc:=hp.below hb;clear S0 rJ lS hSd dw oJ;have hfw:(Lit.int .i64 fr).wf=true:=by
   have h1:=K.ZH hne;exact Ce (by omega) (by omega)
  have S0:=LQ.mk' hpc.blk hT (Below.refl wc.heap.size wc);have rJ:∀ w',LQ wc b mb g fr wt p w'->bP w' b mb p X:=λw' h=>hpc.below h.1;have lS:∀ w' w'',LQ wc b mb g fr wt p w'->Below w'.heap.size w' w''->LQ wc b mb g fr wt p w'':=λw' w'' h hb'=>LQ.mk' hpc.blk hT (bel h.1 hb');have hSd:∀ w',LQ wc b mb g fr wt p w'->LQ wc b mb g fr wt p w'.drew:=λw' h=>LQ.mk' hpc.blk hT h.1.drew;obtain ⟨A1,n1,c1,ok,hlook,hI1⟩:=(hpc.memo.below (w':=wc.drew) (Below.refl _ _).drew).look hfw hwt;go_wp2_with fail;go_region_held3 (λw'=>Below wc.heap.size wc w'/\w'.cell? ⟨g,0,none⟩=some (.int .i64 fr)/\w'.cell? ⟨g,1,none⟩=some (.int .i64 wt)/\w'.cell? ⟨b,0,none⟩=some (.int .i64 p.x.nd)/\w'.cell? ⟨b,1,none⟩=some (.slice p.x.A p.x.n p.x.c)/\w'.cell? ⟨b,2,none⟩=some (.int .i64 p.x.s.day)/\w'.cell? ⟨b,3,none⟩=some (.int .i64 p.x.s.ag)/\w'.cell? ⟨b,4,none⟩=some (.int .i64 p.x.s.start) /\
  w'.cell? ⟨b,5,none⟩=some (.int .i64 p.x.s.end_)/\w'.cell? ⟨b,6,none⟩=some (.int .i64 p.x.s.aj)/\w'.cell? ⟨b,7,none⟩=some (.slice p.x.s.A p.x.s.n p.x.s.c)/\w'.cell? ⟨b,8,none⟩=some (.slice p.x.B p.x.m p.x.d)/\w'.cell? ⟨b,9,none⟩=some (.slice p.A p.n p.c)/\w'.cell? ⟨b,10,none⟩=some (.map (some mb)))
   (first | assumption | exact S0 | exact hSd _ (by assumption) | exact lS _ _ (by assumption) (by assumption))
   (fail)
  have hnd:=K.ZH hne;have hlen:=K.KN (k:=wt) hne hfr;have Xl:p.x.nd.toNat=(K.times p.x.nd p.x.l fr wt).length:=hlen.symm;have HLEN:=zC Xl;clear S0 lS hSd hlook hlen Xl;have hfin:∀ (wf:World) (A:Option Addr) (n:Nat),Ints wf A n (K.times p.x.nd p.x.l fr wt)->∃ ad y,A=some ad/\K.way p.x.nd p.x.l fr wt tn=y/\wf.cell? (ad.add tn)=some (.int .i64 y)/\(tn:Int) < (n:Int):=λwf A n hI=>by
   have htn:tn < n:=by rw [hI.1,<-HLEN.out];omega
   obtain ⟨ad,y,hA,hy,cy⟩:=hI.at_ htn;exact ⟨ad,y,hA,by unfold K.way;rw [G.Dy hy],cy,by omega⟩
  have k0:(0:Int)<=(tn:Int):=by omega
  cases ok
  ·clear hI1;obtain ⟨wd,hwd⟩:=zB wc.drew;have hbd:Below wc.heap.size wc wd:=by rw [hwd];exact (Below.refl _ _).drew
   rw [<-hwd];clear hwd;have hb:=bel hb hbd;have hpc:=hpc.below hbd;have hT:Ag wd g fr wt:=az hbd hT;have S0:=LQ.mk' hpc.blk hT (Below.refl wd.heap.size wd);have rJ:∀ w',LQ wd b mb g fr wt p w'->bP w' b mb p X:=λw' h=>hpc.below h.1;have lS:∀ w' w'',LQ wd b mb g fr wt p w'->Below w'.heap.size w' w''->LQ wd b mb g fr wt p w'':=λw' w'' h hb'=>LQ.mk' hpc.blk hT (bel h.1 hb');have hSd:∀ w',LQ wd b mb g fr wt p w'->LQ wd b mb g fr wt p w'.drew:=λw' h=>LQ.mk' hpc.blk hT h.1.drew;go_wp2_with fail;go_region_held3 (λw'=>Below wd.heap.size wd w'/\w'.cell? ⟨g,0,none⟩=some (.int .i64 fr)/\w'.cell? ⟨g,1,none⟩=some (.int .i64 wt)/\w'.cell? ⟨b,0,none⟩=some (.int .i64 p.x.nd)/\w'.cell? ⟨b,1,none⟩=some (.slice p.x.A p.x.n p.x.c)/\w'.cell? ⟨b,2,none⟩=some (.int .i64 p.x.s.day)/\w'.cell? ⟨b,3,none⟩=some (.int .i64 p.x.s.ag)/\w'.cell? ⟨b,4,none⟩=some (.int .i64 p.x.s.start) /\
  w'.cell? ⟨b,5,none⟩=some (.int .i64 p.x.s.end_)/\w'.cell? ⟨b,6,none⟩=some (.int .i64 p.x.s.aj)/\w'.cell? ⟨b,7,none⟩=some (.slice p.x.s.A p.x.s.n p.x.s.c)/\w'.cell? ⟨b,8,none⟩=some (.slice p.x.B p.x.m p.x.d)/\w'.cell? ⟨b,9,none⟩=some (.slice p.A p.n p.c)/\w'.cell? ⟨b,10,none⟩=some (.map (some mb)))
    (first | assumption | exact S0 | exact hSd _ (by assumption) | exact lS _ _ (by assumption) (by assumption))
    (first
     | (go_at_call 192;refine (ajM p.x.nd p.x.A p.x.n p.x.c p.x.l fr wt _ (rJ _ ?_).at_.net hpc.at_.b1).mono ?_;assumption;rintro e w5 ⟨⟨A5,n5,c5,rfl,fQ,Iu⟩,hbn⟩;have hS5:=lS _ _ (by assumption) hbn)
     | fail)
   have rY:=rJ _ hS5;have b5:=bel hb hS5.1;have dA:Ag w5 g fr wt:=az hS5.1 hT;have MC:=zC hb.size;clear S0 rJ lS hSd hbn hS5 hpc hb hbd hT;have Oi:=fQ.below (w':=w5.drew) (Below.refl _ _).drew;obtain ⟨w6,EG,uq,jq⟩:=(rY.memo.below (w':=w5.drew) (Below.refl _ _).drew).store hfw hwt Oi (λad e=>⟨(Iu ad e).2,λhx=>by have h1:=hX _ hx;have h2:wd.heap.size<=ad.block:=(Iu ad e).1;have h3:=MC.out;omega⟩) (c:=c5);have hx6:=(rY.memo.below (w':=w5.drew) (Below.refl _ _).drew).ext jq;have y8:=(rY.below (w':=w5.drew) (Below.refl _ _).drew).keep hx6 uq;have dR:Ag w6 g fr wt:=hx6.cells _ _ _ _ (az (w':=w5.drew) (Below.refl _ _).drew dA);have gV:=Oi.ext hx6;have hS:∀ w',vW w' b mb p->Ag w' g fr wt->(λw'=>w'.cell? ⟨g,0,none⟩=some (.int .i64 fr)/\w'.cell? ⟨g,1,none⟩=some (.int .i64 wt)/\w'.cell? ⟨b,0,none⟩=some (.int .i64 p.x.nd)/\w'.cell? ⟨b,1,none⟩=some (.slice p.x.A p.x.n p.x.c)/\w'.cell? ⟨b,2,none⟩=some (.int .i64 p.x.s.day)/\w'.cell? ⟨b,3,none⟩=some (.int .i64 p.x.s.ag)/\w'.cell? ⟨b,4,none⟩=some (.int .i64 p.x.s.start) /\
  w'.cell? ⟨b,5,none⟩=some (.int .i64 p.x.s.end_)/\w'.cell? ⟨b,6,none⟩=some (.int .i64 p.x.s.aj)/\w'.cell? ⟨b,7,none⟩=some (.slice p.x.s.A p.x.s.n p.x.s.c)/\w'.cell? ⟨b,8,none⟩=some (.slice p.x.B p.x.m p.x.d)/\w'.cell? ⟨b,9,none⟩=some (.slice p.A p.n p.c)/\w'.cell? ⟨b,10,none⟩=some (.map (some mb))) w':=λw' h1 h2=>⟨af h2 0 _ rfl,af h2 1 _ rfl,h1.cells⟩
   have S5:=hS _ rY.blk dA;have Ur:=hS _ (rY.below (w':=w5.drew) (Below.refl _ _).drew).blk (az (w':=w5.drew) (Below.refl _ _).drew dA);have S6:=hS _ y8.blk dR;go_wp2_with fail;go_region_held3 (λw'=>w'.cell? ⟨g,0,none⟩=some (.int .i64 fr)/\w'.cell? ⟨g,1,none⟩=some (.int .i64 wt)/\w'.cell? ⟨b,0,none⟩=some (.int .i64 p.x.nd)/\w'.cell? ⟨b,1,none⟩=some (.slice p.x.A p.x.n p.x.c)/\w'.cell? ⟨b,2,none⟩=some (.int .i64 p.x.s.day)/\w'.cell? ⟨b,3,none⟩=some (.int .i64 p.x.s.ag)/\w'.cell? ⟨b,4,none⟩=some (.int .i64 p.x.s.start) /\
  w'.cell? ⟨b,5,none⟩=some (.int .i64 p.x.s.end_)/\w'.cell? ⟨b,6,none⟩=some (.int .i64 p.x.s.aj)/\w'.cell? ⟨b,7,none⟩=some (.slice p.x.s.A p.x.s.n p.x.s.c)/\w'.cell? ⟨b,8,none⟩=some (.slice p.x.B p.x.m p.x.d)/\w'.cell? ⟨b,9,none⟩=some (.slice p.A p.n p.c)/\w'.cell? ⟨b,10,none⟩=some (.map (some mb)))
    (first | assumption | exact S5 | exact Ur | exact S6)
    (fail)
   have hW:jw w w6 b mb p X:=⟨grow_step (fM (ni w _) (bel b5 (w2:=w5.drew) (Below.refl _ _).drew)) jq (.inl rfl),y8⟩;obtain ⟨ad,y,rfl,hy,cy,k1⟩:=hfin w6 A5 n5 gV;have HY:=zC hy;clear hy hfin fQ Oi gV S5 Ur S6 hS EG hx6 jq;go_wp2_with fail;go_quiet (fail);go_wp2_with fail;go_ret2
   rw [HY.out];exact ⟨rfl,hW.below (below_drewN (Below.refl _ _) _)⟩
  ·have hI:=hI1 rfl;clear hI1;obtain ⟨wd,hwd⟩:=zB wc.drew;have hbd:Below wc.heap.size wc wd:=by rw [hwd];exact (Below.refl _ _).drew
   rw [<-hwd] at hI ⊢;clear hwd;obtain ⟨ad,y,rfl,hy,cy,k1⟩:=hfin wd A1 n1 hI;have HY:=zC hy;have hW:=KU hp (bel hb hbd);clear hy hfin hI rJ hT;go_wp2_with fail;go_quiet (fail);go_wp2_with fail;go_ret2
   rw [HY.out];exact ⟨rfl,hW.below (below_drewN (Below.refl _ _) _)⟩
theorem akf:∀ k:Fin 8,IntKind.i64.wrap ((2:Int) ^ k.val)=2 ^ k.val:=by decide +kernel
theorem pz {k:Nat} (hk:k < 8):IntKind.i64.wrap ((2:Int) ^ k)=2 ^ k:=akf ⟨k,hk⟩
structure Elem (p:PS) (i j:Nat) (q:Q):Prop where
 set:p.l[i]? = some (j:Int)
 req:p.x.r[j]? = some q
theorem Elem.lt {w:World} {b mb:Nat} {p:PS} {i j:Nat} {q:Q} {X:Nat->Prop} (h:Elem p i j q) (hp:bP w b mb p X):i < p.n/\j < p.x.m:=by
 have h1:=(zE.1 h.set).1;have h2:=(zE.1 h.req).1;exact ⟨by rw [hp.set.1];exact h1,by rw [hp.at_.aN.1];exact h2⟩
theorem Elem.cells {w:World} {b mb:Nat} {p:PS} {i j:Nat} {q:Q} {X:Nat->Prop} (h:Elem p i j q) (hp:bP w b mb p X) :
  ∃ au ad,p.A=some au/\p.x.B=some ad/\fB w q.A q.n q.l/\w.cell? (au.add i)=some (.int .i64 (j:Int))/\w.cell? (ad.add (j * 7))=some (.int .i64 q.node) /\
   w.cell? ⟨(ad.add (j * 7)).block,(ad.add (j * 7)).off + 1,none⟩=some (.int .i64 q.room) /\
   w.cell? ⟨(ad.add (j * 7)).block,(ad.add (j * 7)).off + 2,none⟩=some (.int .i64 q.aF) /\
   w.cell? ⟨(ad.add (j * 7)).block,(ad.add (j * 7)).off + 3,none⟩=some (.int .i64 q.service) /\
   w.cell? ⟨(ad.add (j * 7)).block,(ad.add (j * 7)).off + 4,none⟩=some (.int .i64 q.aB) /\
   w.cell? ⟨(ad.add (j * 7)).block,(ad.add (j * 7)).off + 5,none⟩=some (.int .i64 q.aA) /\
   w.cell? ⟨(ad.add (j * 7)).block,(ad.add (j * 7)).off + 6,none⟩=some (.slice q.A q.n q.c):=by
 obtain ⟨hi,hj⟩:=h.lt hp;obtain ⟨au,y,hA,hy,cy⟩:=hp.set.at_ hi;rw [h.set] at hy;injection hy with hy;subst hy;obtain ⟨ad,q',hB,hgq,hwq,e0,e1,e2,e3,e4,e5,e6⟩:=hp.at_.aN.at_ hj;rw [h.req] at hgq;injection hgq with hgq;subst hgq;exact ⟨au,ad,hA,hB,hwq,cy,e0,e1,e2,e3,e4,e5,e6⟩
theorem Fg (b mb:Nat) (p:PS) (i j:Nat) (q:Q) (w:World) {X:Nat->Prop} (hp:bP w b mb p X) (he:Elem p i j q) :
  Calls Tryz.prog 142 #[.pointer (some ⟨b,0,none⟩),.int .i64 i] w λe w'=>e=.returned (.int .i64 q.node)/\Below w.heap.size w w':=by
 obtain ⟨c0,c1,c2,c3,c4,c5,c6,c7,c8,c9,c10⟩:=hp.blk.cells;obtain ⟨hi,hj⟩:=he.lt hp;obtain ⟨au,ad,hA,hB,-,y,e0,-⟩:=he.cells hp;have k0:(0:Int)<=(i:Int):=by omega
 have k1:(i:Int) < (p.n:Int):=by omega
 have k2:(0:Int)<=(j:Int):=by omega
 have k3:(j:Int) < (p.x.m:Int):=by omega
 rw [hA] at c9;rw [hB] at c8;clear hA hB;go_enter Tryz.func142,Tryz.ntmps142;go_wp2_with fail;go_quiet (fail);go_wp2_with fail;go_ret;exact ⟨rfl,below_drewN (Below.refl _ _) _⟩
def LE (w:World) (b mb:Nat) (p:PS) (i j:Nat) (q:Q) (au ad:Addr) (w':World):Prop:=Below w.heap.size w w'/\w'.cell? ⟨b,0,none⟩=some (.int .i64 p.x.nd)/\w'.cell? ⟨b,1,none⟩=some (.slice p.x.A p.x.n p.x.c)/\w'.cell? ⟨b,2,none⟩=some (.int .i64 p.x.s.day)/\w'.cell? ⟨b,3,none⟩=some (.int .i64 p.x.s.ag)/\w'.cell? ⟨b,4,none⟩=some (.int .i64 p.x.s.start) /\
  w'.cell? ⟨b,5,none⟩=some (.int .i64 p.x.s.end_)/\w'.cell? ⟨b,6,none⟩=some (.int .i64 p.x.s.aj)/\w'.cell? ⟨b,7,none⟩=some (.slice p.x.s.A p.x.s.n p.x.s.c)/\w'.cell? ⟨b,8,none⟩=some (.slice (some ad) p.x.m p.x.d)/\w'.cell? ⟨b,9,none⟩=some (.slice (some au) p.n p.c)/\w'.cell? ⟨b,10,none⟩=some (.map (some mb))/\w'.cell? (au.add i)=some (.int .i64 (j:Int))/\w'.cell? (ad.add (j * 7))=some (.int .i64 q.node) /\
   w'.cell? ⟨(ad.add (j * 7)).block,(ad.add (j * 7)).off + 1,none⟩=some (.int .i64 q.room) /\
   w'.cell? ⟨(ad.add (j * 7)).block,(ad.add (j * 7)).off + 2,none⟩=some (.int .i64 q.aF) /\
   w'.cell? ⟨(ad.add (j * 7)).block,(ad.add (j * 7)).off + 3,none⟩=some (.int .i64 q.service) /\
   w'.cell? ⟨(ad.add (j * 7)).block,(ad.add (j * 7)).off + 4,none⟩=some (.int .i64 q.aB) /\
   w'.cell? ⟨(ad.add (j * 7)).block,(ad.add (j * 7)).off + 5,none⟩=some (.int .i64 q.aA) /\
   w'.cell? ⟨(ad.add (j * 7)).block,(ad.add (j * 7)).off + 6,none⟩=some (.slice q.A q.n q.c)
theorem LE.mk' {w:World} {b mb:Nat} {p:PS} {i j:Nat} {q:Q} {au ad:Addr} {X:Nat->Prop} (hp:bP w b mb p X) (he:Elem p i j q) (hA:p.A=some au) (hB:p.x.B=some ad) {w':World} (hb:Below w.heap.size w w'):LE w b mb p i j q au ad w':=by
 have h:=hp.below hb;obtain ⟨Ux,ad',hA',hB',-,hc⟩:=he.cells h;rw [hA] at hA';injection hA' with hA';subst hA';rw [hB] at hB';injection hB' with hB';subst hB';obtain ⟨d0,d1,d2,d3,d4,d5,d6,d7,d8,d9,d10⟩:=h.blk.cells;rw [hA] at d9;rw [hB] at d8;exact ⟨hb,d0,d1,d2,d3,d4,d5,d6,d7,d8,d9,d10,hc⟩
namespace K
def begins (s:S) (r:List Q) (q:Q) (all:List Int) (arr:Int):Int × Bool :=
 if s.day < q.aB\/q.aA < s.day\/s.end_ < arr\/T.fits s r all=false then (0,false)
 else ((H.fit q.l arr q.service).1,(H.fit q.l arr q.service).2 && decide ((H.fit q.l arr q.service).1 + q.service<=s.end_))
end K
def Gf (p:PS) (q:Q) (all:List Int) (arr:Int) (w w':World) (e:Ending):Prop:=e=.returned (.tuple #[.int .i64 (K.begins p.x.s p.x.r q all arr).1,.bool (K.begins p.x.s p.x.r q all arr).2])/\Below w.heap.size w w'
theorem Ak {p:PS} {q:Q} {all:List Int} {arr t:Int} {ok:Bool} {w w':World} (h:K.begins p.x.s p.x.r q all arr=(t,ok)) (hb:Below w.heap.size w w'):Gf p q all arr w w' (.returned (.tuple #[.int .i64 t,.bool ok])):=⟨by rw [h],hb⟩
theorem aal (b mb:Nat) (p:PS) (m i j:Nat) (q:Q) (arr:Int) (w:World) {X:Nat->Prop} (hp:bP w b mb p X) (he:Elem p i j q) (hm:m < 64) (yY:m.testBit i=false) (hm2:m + 2 ^ i < 256) (hse:0<=q.service/\q.service<=1000000) :
  Calls Tryz.prog 201 #[.pointer (some ⟨b,0,none⟩),.int .i64 m,.int .i64 i,.int .i64 arr] w λe w'=>Gf p q (K.part p.l (m + 2 ^ i)) arr w w' e:=by
 obtain ⟨hi,hj⟩:=he.lt hp;obtain ⟨hne,hck,hdp,hrq,bJ,-⟩:=K.fU hp.ok;have hpl:(K.part p.l (m + 2 ^ i)).length<=6:=Nat.le_trans (K.nN _ _) bJ;have kH:p.n<=6:=by rw [hp.set.1];exact bJ
 obtain ⟨au,ad,hA,hB,hwq,y,e0,e1,e2,e3,e4,e5,e6⟩:=he.cells hp;have dL:=hp.at_.b4 q (zD he.req);obtain ⟨c2,c3,c4⟩:p.x.s.n<=1000000000/\p.x.m<=1000000000/\∀ q ∈ p.x.r,q.n<=1000000000:=⟨hp.at_.b2,hp.at_.b3,hp.at_.b4⟩;have k0:(0:Int)<=(i:Int):=by omega
 have k1:(i:Int) < (p.n:Int):=by omega
 have k2:(0:Int)<=(j:Int):=by omega
 have k3:(j:Int) < (p.x.m:Int):=by omega
 clear hne hck hdp hrq bJ;have S0:=LE.mk' hp he hA hB (Below.refl w.heap.size w);have hSd:∀ w',LE w b mb p i j q au ad w'->LE w b mb p i j q au ad w'.drew:=λw' h=>LE.mk' hp he hA hB h.1.drew;have dw:∀ w' o',LE w b mb p i j q au ad w'->LE w b mb p i j q au ad (w'.alloc o'):=λw' o' h=>LE.mk' hp he hA hB (bel h.1 ((Below.refl _ _).alloc (zG _) _));have oJ:∀ (w':World) (g k:Nat) (v:Value),LE w b mb p i j q au ad w'->w.heap.size<=g->LE w b mb p i j q au ad (w'.setCell ⟨g,k,none⟩ v):=λw' g k v h hg=>LE.mk' hp he hA hB (h.1.setCell hg _);have HA:=zC hA;have HB:=zC hB;clear hA hB y e0 e1 e2 e3 e4 e5 e6;go_enter Tryz.func201,Tryz.ntmps201;go_wp2_with fail;go_cut [10] from 13 to 25 (λv10 wc=>∃ g,v10=.pointer (some ⟨g,0,none⟩)/\w.heap.size<=g/\jK wc g q/\Below w.heap.size w wc)
 case first =>
  go_region_held3 (λw'=>Below w.heap.size w w'/\w'.cell? ⟨b,0,none⟩=some (.int .i64 p.x.nd)/\w'.cell? ⟨b,1,none⟩=some (.slice p.x.A p.x.n p.x.c)/\w'.cell? ⟨b,2,none⟩=some (.int .i64 p.x.s.day)/\w'.cell? ⟨b,3,none⟩=some (.int .i64 p.x.s.ag)/\w'.cell? ⟨b,4,none⟩=some (.int .i64 p.x.s.start) /\
  w'.cell? ⟨b,5,none⟩=some (.int .i64 p.x.s.end_)/\w'.cell? ⟨b,6,none⟩=some (.int .i64 p.x.s.aj)/\w'.cell? ⟨b,7,none⟩=some (.slice p.x.s.A p.x.s.n p.x.s.c)/\w'.cell? ⟨b,8,none⟩=some (.slice (some ad) p.x.m p.x.d)/\w'.cell? ⟨b,9,none⟩=some (.slice (some au) p.n p.c)/\w'.cell? ⟨b,10,none⟩=some (.map (some mb))/\w'.cell? (au.add i)=some (.int .i64 (j:Int))/\w'.cell? (ad.add (j * 7))=some (.int .i64 q.node) /\
   w'.cell? ⟨(ad.add (j * 7)).block,(ad.add (j * 7)).off + 1,none⟩=some (.int .i64 q.room) /\
   w'.cell? ⟨(ad.add (j * 7)).block,(ad.add (j * 7)).off + 2,none⟩=some (.int .i64 q.aF) /\
   w'.cell? ⟨(ad.add (j * 7)).block,(ad.add (j * 7)).off + 3,none⟩=some (.int .i64 q.service) /\
   w'.cell? ⟨(ad.add (j * 7)).block,(ad.add (j * 7)).off + 4,none⟩=some (.int .i64 q.aB) /\
   w'.cell? ⟨(ad.add (j * 7)).block,(ad.add (j * 7)).off + 5,none⟩=some (.int .i64 q.aA) /\
   w'.cell? ⟨(ad.add (j * 7)).block,(ad.add (j * 7)).off + 6,none⟩=some (.slice q.A q.n q.c))
   (first | assumption | exact S0 | exact hSd _ S0 | exact dw _ _ (by assumption) | exact dw _ _ S0 | exact hSd _ (dw _ _ S0) | exact dw _ _ (hSd _ S0))
   (fail)
  go_wp2_with fail;go_meet
  case rel=>exact ⟨_,rfl,zG _,heap_alloc_new _ _,bel (w1:=w.drew) (Below.refl _ _).drew ((Below.refl _ _).alloc (zG _) _)⟩
 case rest =>
  obtain ⟨g,rfl,hg,hQ,hb⟩:=hcut;have hpc:=hp.below hb;have hwq:=hwq.below hb;clear S0 hSd dw oJ;obtain ⟨e0,e1,e2,e3,e4,e5,e6⟩:=hQ.cells;obtain ⟨d0,d1,d2,d3,d4,d5,d6,d7,d8,d9,d10⟩:=hpc.blk.cells;rw [HB.out] at d8;rw [HA.out] at d9;cases x1:decide (p.x.s.day < q.aB);rotate_left
  ·have HX:=zC (show K.begins p.x.s p.x.r q (K.part p.l (m + 2 ^ i)) arr=(0,false) by unfold K.begins;rw [if_pos (.inl (of_decide_eq_true x1))]);go_wp2_with fail;go_quiet (fail);go_wp2_with fail;go_ret2
   exact Ak HX.out (below_drewN hb _)
  cases x2:decide (q.aA < p.x.s.day);rotate_left
  ·have HX:=zC (show K.begins p.x.s p.x.r q (K.part p.l (m + 2 ^ i)) arr=(0,false) by unfold K.begins;rw [if_pos (.inr (.inl (of_decide_eq_true x2)))]);go_wp2_with fail;go_quiet (fail);go_wp2_with fail;go_ret2
   exact Ak HX.out (below_drewN hb _)
  cases x3:decide (p.x.s.end_ < arr);rotate_left
  ·have HX:=zC (show K.begins p.x.s p.x.r q (K.part p.l (m + 2 ^ i)) arr=(0,false) by unfold K.begins;rw [if_pos (.inr (.inr (.inl (of_decide_eq_true x3))))]);go_wp2_with fail;go_quiet (fail);go_wp2_with fail;go_ret2
   exact Ak HX.out (below_drewN hb _)
  have HD:=zC (show ¬ p.x.s.day < q.aB/\¬ q.aA < p.x.s.day/\¬ p.x.s.end_ < arr from ⟨of_decide_eq_false x1,of_decide_eq_false x2,of_decide_eq_false x3⟩);obtain ⟨mm,hmm⟩:=zB (m + 2 ^ i);have hor:bits BinOp.or IntKind.i64 (m:Int) (IntKind.i64.wrap (2 ^ i))=(mm:Int):=by rw [pz (by omega),Hy hm (by omega) yY,hmm]
  rw [<-hmm] at hpl hm2;have Tz:=zC hmm;clear hmm d0 d1 d2 d3 d4 d5 d6 d7 d8 d9 d10;have hmk:∀ w',Below wc.heap.size wc w'->(λw'=>Below wc.heap.size wc w'/\w'.cell? ⟨g,0,none⟩=some (.int .i64 q.node)/\w'.cell? ⟨g,1,none⟩=some (.int .i64 q.room)/\w'.cell? ⟨g,2,none⟩=some (.int .i64 q.aF)/\w'.cell? ⟨g,3,none⟩=some (.int .i64 q.service)/\w'.cell? ⟨g,4,none⟩=some (.int .i64 q.aB)/\w'.cell? ⟨g,5,none⟩=some (.int .i64 q.aA)/\w'.cell? ⟨g,6,none⟩=some (.slice q.A q.n q.c)/\w'.cell? ⟨b,0,none⟩=some (.int .i64 p.x.nd)/\w'.cell? ⟨b,1,none⟩=some (.slice p.x.A p.x.n p.x.c)/\w'.cell? ⟨b,2,none⟩=some (.int .i64 p.x.s.day)/\w'.cell? ⟨b,3,none⟩=some (.int .i64 p.x.s.ag)/\w'.cell? ⟨b,4,none⟩=some (.int .i64 p.x.s.start) /\
  w'.cell? ⟨b,5,none⟩=some (.int .i64 p.x.s.end_)/\w'.cell? ⟨b,6,none⟩=some (.int .i64 p.x.s.aj)/\w'.cell? ⟨b,7,none⟩=some (.slice p.x.s.A p.x.s.n p.x.s.c)/\w'.cell? ⟨b,8,none⟩=some (.slice (some ad) p.x.m p.x.d)/\w'.cell? ⟨b,9,none⟩=some (.slice (some au) p.n p.c)/\w'.cell? ⟨b,10,none⟩=some (.map (some mb))) w':=λw' h=>by
   have h2:=(hpc.below h).blk.cells;obtain ⟨d0,d1,d2,d3,d4,d5,d6,d7,d8,d9,d10⟩:=h2;rw [HB.out] at d8;rw [HA.out] at d9;exact ⟨h,(hQ.below h).cells.1,(hQ.below h).cells.2.1,(hQ.below h).cells.2.2.1,(hQ.below h).cells.2.2.2.1,(hQ.below h).cells.2.2.2.2.1,(hQ.below h).cells.2.2.2.2.2.1,(hQ.below h).cells.2.2.2.2.2.2,d0,d1,d2,d3,d4,d5,d6,d7,d8,d9,d10⟩
  have S0:=hmk _ (Below.refl _ _);have aW:=hmk _ (Below.refl wc.heap.size wc).drew;clear e0 e1 e2 e3 e4 e5 e6;go_wp2_with fail;go_region_held3 (λw'=>Below wc.heap.size wc w'/\w'.cell? ⟨g,0,none⟩=some (.int .i64 q.node)/\w'.cell? ⟨g,1,none⟩=some (.int .i64 q.room)/\w'.cell? ⟨g,2,none⟩=some (.int .i64 q.aF)/\w'.cell? ⟨g,3,none⟩=some (.int .i64 q.service)/\w'.cell? ⟨g,4,none⟩=some (.int .i64 q.aB)/\w'.cell? ⟨g,5,none⟩=some (.int .i64 q.aA)/\w'.cell? ⟨g,6,none⟩=some (.slice q.A q.n q.c)/\w'.cell? ⟨b,0,none⟩=some (.int .i64 p.x.nd)/\w'.cell? ⟨b,1,none⟩=some (.slice p.x.A p.x.n p.x.c)/\w'.cell? ⟨b,2,none⟩=some (.int .i64 p.x.s.day)/\w'.cell? ⟨b,3,none⟩=some (.int .i64 p.x.s.ag)/\w'.cell? ⟨b,4,none⟩=some (.int .i64 p.x.s.start) /\
  w'.cell? ⟨b,5,none⟩=some (.int .i64 p.x.s.end_)/\w'.cell? ⟨b,6,none⟩=some (.int .i64 p.x.s.aj)/\w'.cell? ⟨b,7,none⟩=some (.slice p.x.s.A p.x.s.n p.x.s.c)/\w'.cell? ⟨b,8,none⟩=some (.slice (some ad) p.x.m p.x.d)/\w'.cell? ⟨b,9,none⟩=some (.slice (some au) p.n p.c)/\w'.cell? ⟨b,10,none⟩=some (.map (some mb)))
   (first | assumption | exact S0 | exact aW)
   (first
    | (go_at_call 191;refine (aai b mb p mm wc.drew (hpc.below (Below.refl _ _).drew) hm2).mono ?_;rintro e w3 ⟨⟨A9,n9,c9,rfl,hI⟩,hbn⟩;have hb3:=bel (w1:=wc.drew) (Below.refl wc.heap.size wc).drew hbn;have S3:=hmk _ hb3)
    | (go_at_call 121;refine (fits_any p.x.s (some ad) p.x.m p.x.d p.x.r A9 n9 c9 (K.part p.l mm) w3 (hpc.below hb3).at_.g_ c2 (by rw [<-HB.out];exact (hpc.below hb3).at_.aN) c3 c4 hI (by rw [hI.1];omega)).mono ?_;rintro e w4 ⟨rfl,gX⟩;have hb4:=bel hb3 gX;have S4:=hmk _ hb4)
    | fail)
  have hb:=bel hb hb4;have hpc:=hpc.below hb4;have hQ:=hQ.below hb4;have hwq:=hwq.below hb4;clear S0 aW S3 S4 hmk hb3 hb4 hbn gX hI x1 x2 x3;cases hf:T.fits p.x.s p.x.r (K.part p.l mm)
  ·have HX:=zC (show K.begins p.x.s p.x.r q (K.part p.l (m + 2 ^ i)) arr=(0,false) by unfold K.begins;rw [<-Tz.out,if_pos (.inr (.inr (.inr hf)))]);clear hf;go_wp2_with fail;go_ret2
   exact Ak HX.out hb
  have HF:=zC (show ¬ (p.x.s.day < q.aB\/q.aA < p.x.s.day\/p.x.s.end_ < arr\/T.fits p.x.s p.x.r (K.part p.l mm)=false) by
   obtain ⟨h1,h2,h3⟩:=HD.out;rw [hf];simp [h1,h2,h3])
  clear hf;obtain ⟨e0,e1,e2,e3,e4,e5,e6⟩:=hQ.cells;go_wp2_with fail;refine (VR q.A q.n q.c q.l arr q.service _ hwq dL).mono ?_;rintro e w5 ⟨rfl,b5⟩;have hb:=bel hb b5;have hpc:=hpc.below b5;have hQ:=hQ.below b5;clear b5 e0 e1 e2 e3 e4 e5 e6 hwq;have xJ:=zC (λh=>H.lM (l:=q.l) (t:=arr) (s:=q.service) h);obtain ⟨fb,hfb⟩:=zB ((H.fit q.l arr q.service).1);obtain ⟨ok,hok⟩:=zB ((H.fit q.l arr q.service).2);rw [<-hfb,<-hok];have HX:=zC (show K.begins p.x.s p.x.r q (K.part p.l (m + 2 ^ i)) arr=(fb,ok && decide (fb + q.service<=p.x.s.end_)) by unfold K.begins;rw [<-Tz.out,if_neg HF.out,<-hfb,<-hok]);have pI:=zC hfb;have aJ:=zC hok;clear hfb hok;obtain ⟨e0,e1,e2,e3,e4,e5,e6⟩:=hQ.cells;obtain ⟨d0,d1,d2,d3,d4,d5,d6,d7,d8,d9,d10⟩:=hpc.blk.cells;cases ok
  ·go_wp2_with fail;go_quiet (fail);go_wp2_with fail;go_ret2
   exact Ak HX.out (below_drewN hb _)
  ·obtain ⟨-,-,-,hf1,hf2⟩:=xJ.out (by rw [<-aJ.out]);obtain ⟨-,g2,-⟩:=H.lM (l:=q.l) (t:=arr) (s:=q.service) (by rw [<-aJ.out]);rw [<-pI.out] at hf1 hf2;have hwrap:IntKind.i64.wrap (fb + q.service)=fb + q.service:=IntWalk.i64_in _ (by omega);go_wp2_with fail;go_quiet (fail);go_wp2_with fail;go_ret2
   exact Ak HX.out (below_drewN hb _)
end Go.Proofs.YtippdjmpkafifaaGreat
