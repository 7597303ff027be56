import Derived.Test.YtippdjmpkafifaaGreatCR4
import Derived.BigRegion
import Derived.DeepKeys5
import Derived.Maps.OwnSet
import Derived.Deep.RegionHeld3
set_option maxRecDepth 100000
set_option maxHeartbeats 64000000
namespace Go.Proofs.YtippdjmpkafifaaGreat
open Go.RowKit
def oH (w:World):List Obj->World
 | []=>w
 | o :: l=>oH (w.alloc o) l
theorem oH.below:∀ (l:List Obj) (w:World),af w (oH w l):=by
 intro l;induction l with
 | nil=>intro w;exact ai
 | cons o l ih=>intro w;exact bel (ai.alloc (zG _) o) (ih _)
theorem oH.get:∀ (l:List Obj) (w:World) (i:Nat) (o:Obj),l[i]? = some o->(oH w l).heap[w.heap.size + i]? = some o:=by
 intro l;induction l with
 | nil=>intro w i o h;simp at h
 | cons o' l ih =>
  intro w i o h;show (oH (w.alloc o') l).heap[_]? = _;cases i with
  | zero =>
   simp at h;subst h;exact au (oH.below l _) (aA w o')
  | succ i =>
   have:=ih (w.alloc o') i o (by simpa using h);rw [aF] at this;rw [<-this];congr 1;omega
def Sets (w:World):List (Addr × Value)->World
 | []=>w
 | p :: l=>Sets (w.setCell p.1 p.2) l
theorem Sets.other:∀ (l:List (Addr × Value)) (w:World) (g:Nat),(∀ p ∈ l,p.1.block ≠ g)->(Sets w l).heap[g]? = w.heap[g]?:=by
 intro l;induction l with
 | nil=>intro w g _;rfl
 | cons p l ih =>
  intro w g h;show (Sets (w.setCell p.1 p.2) l).heap[g]? = _;rw [ih _ g (λq hq=>h q (dN _ hq))];exact iG w p.1 p.2 g (Ne.symm (h p dJ))
theorem Sets.below {B:Nat}:∀ (l:List (Addr × Value)) (w w':World),Below B w w'->(∀ p ∈ l,B<=p.1.block)->Below B w (Sets w' l):=by
 intro l;induction l with
 | nil=>intro w w' hb _;exact hb
 | cons p l ih=>intro w w' hb h;exact ih w _ (hb.setCell (h p dJ) _) (λq hq=>h q (dN _ hq))
theorem acU {fn:Func} {p q u:Tmp} {ty ty2:TypeId} (h:fn.results=#[.cell p ty,.cell q ty2,.tmp u]) (tmps:Array Value) (P:Program) (w:World) :
  (results fn tmps).run P w =
   ((asAddr (tmps.getD p undef)).run P w).andThen λa w₁=>((loadVar ty a).run P w₁).andThen λx w₂=>((asAddr (tmps.getD q undef)).run P w₂).andThen λb w₃=>((loadVar ty2 b).run P w₃).andThen λy w₄=>.ok (.tuple #[x,y,tmps.getD u undef]) w₄:=by
 simp only [results,h];simp [Sem.run_bind,Result.andThen]
section
namespace K
def l9 (nd:Int) (r:List Q):Int->List Int->Bool
 | _,[]=>true
 | p,k :: rest=>decide (0<=k) && (decide (k < (r.length:Int)) && (decide (p < k) && (decide ((req r k).node < nd) && l9 nd r k rest)))
def bF (nd:Int) (l:List Ro) (s:S) (r:List Q) (v:ag):Bool :=
 (aZ nd l == 0) && ((T.check s == 0) && (decide (s.ax < nd) && (!(r.any λq=>!T.right q) && (decide (v.length<=6) && l9 nd r (-1) v))))
def prev (v:ag):Nat->Int
 | 0=>-1
 | k + 1=>(v[k]?).getD (-1)
theorem alH {nd:Int} {r:List Q} {v:ag} {k:Nat} {i:Int} (h:v[k]? = some i) (p:Int):l9 nd r p (v.drop k)=(decide (0<=i) && (decide (i < (r.length:Int)) && (decide (p < i) && (decide ((req r i).node < nd) && l9 nd r i (v.drop (k + 1)))))):=by
 obtain ⟨hk,e⟩:=zE.1 h;rw [jE hk,e];rfl
end K
structure Ext (w w':World):Prop where
 size:w.heap.size<=w'.heap.size
 cells:∀ (g:Nat) (cs:Array Value) (t:TypeId) (z:Nat × Nat),w.heap[g]? = some (Obj.cells cs t z)->w'.heap[g]? = some (Obj.cells cs t z)
theorem Ext.refl (w:World):Ext w w:=⟨zG _,λ_ _ _ _ h=>h⟩
theorem Ext.trans {a b c:World} (h:Ext a b) (h2:Ext b c):Ext a c:=⟨aN h.size h2.size,λg cs t z e=>h2.cells g cs t z (h.cells g cs t z e)⟩
theorem Ext.below {w w':World} (h:af w w'):Ext w w':=⟨h.size,λ_ _ _ _ e=>au h e⟩
theorem Ext.cell {w w':World} (h:Ext w w') {p:Addr} {v:Value} (e:w.cell? p=some v):w'.cell? p=some v:=by
 have hlt:=cell_lt e;cases ho:w.heap[p.block]? with
 | none=>rw [Array.getElem?_eq_none_iff] at ho;omega
 | some o =>
  cases o with
  | cells cs t z=>exact (lg (by rw [h.cells _ _ _ _ ho,ho])).trans e
  | _=>simp [World.cell?,ho] at e
theorem Rd.ext {w w':World} {size n:Nat} {A:aj} {xs:List Value} (h:Rd w size A n xs) (hb:Ext w w'):Rd w' size A n xs :=
 ⟨h.1,λhn=>by
  obtain ⟨ad,e,hc⟩:=h.2 hn;exact ⟨ad,e,λj u hu=>hb.cell (hc j u hu)⟩⟩
theorem Ints.ext {w w':World} {A:aj} {n:Nat} {l:ag} (h:Ints w A n l) (hb:Ext w w'):Ints w' A n l:=⟨h.1,h.2.ext hb⟩
open Go.WideMaps Go.Maps Go.WideShapes
theorem laidOut:laidOutB Tryz.prog=true:=by kernel_rfl
theorem akU:(224:TypeId) < Tryz.prog.types.size:=iH (by kernel_rfl)
theorem amC:(match Tryz.prog.underlying 224 with | some (.array _ _) | some (.struct _)=>true | _=>false)=true:=by rw [Tryz.underlying224]
theorem Du:Keyed Tryz.prog 224:=Keyed.of_law (deep_law_laid laidOut (m:=2) (by omega) akU (by kernel_rfl) amC)
theorem X8:Tryz.prog.cellsOf 224=2:=by kernel_rfl
theorem amg:Tryz.prog.keyType 224=true:=by kernel_rfl
theorem cells3:Tryz.prog.cellsOf 3=1:=by kernel_rfl
theorem aed:0 < Tryz.prog.types.size:=iH (by kernel_rfl)
theorem OH {f k:Int} (hf:(Lit.int .i64 f).wf=true) (hk:(Lit.int .i64 k).wf=true):∃ l,keyOf Tryz.prog 224 (.agg #[.int .i64 f,.int .i64 k])=some l:=by
 unfold keyOf;rw [Tryz.underlying224];simp only [amg,Bool.true_and,Value.formed,Tryz.underlying224,X8];have hp:=aed;generalize Tryz.prog.types.size=N at *;obtain ⟨M,rfl⟩:∃ M,N=M + 1:=⟨N - 1,by omega⟩;have h1:Tryz.prog.keyLits (M + 1 + 1) 224 [.int .i64 f,.int .i64 k] = some ([Lit.int .i64 f] ++ [Lit.int .i64 k]):=by
  simp [Program.keyLits,Tryz.underlying224,Tryz.underlying3,X8,cells3,hf,hk]
 have h2:(Value.agg #[Value.int IntKind.i64 f,Value.int IntKind.i64 k]).cells.toList=[.int .i64 f,.int .i64 k]:=rfl;rw [h2,h1];exact ⟨_,rfl⟩
open Go.MapKept Go.ChangeMaps in
theorem Ext.NF {w w':World} {mb:Nat} {es:Array MapEntry} {clock:Nat} (hm:w.heap[mb]? = some (.map es clock)) (hg:w.grownBy w' (some mb)):Ext w w' :=
 ⟨hg.size,λg cs t z e=>iV hg e (λe2=>by injection e2 with e2;subst e2;rw [hm] at e;cases e)⟩
def fZ (w:World) (mb:Nat) (nd:Int) (l:List Ro) (X:Nat->Prop):Prop :=
 ∃ es clock,w.heap[mb]? = some (.map es clock)/\∀ e ∈ es.toList,∃ f k A n c,e.key=.agg #[.int .i64 f,.int .i64 k]/\(Lit.int .i64 f).wf=true/\(Lit.int .i64 k).wf=true/\e.val=.slice A n c/\Ints w A n (K.times nd l f k)/\∀ ad,A=some ad->ad.block < w.heap.size/\¬ X ad.block
theorem fZ.ext {w w':World} {mb:Nat} {nd:Int} {l:List Ro} {X:Nat->Prop} (h:fZ w mb nd l X) (hg:w.grownBy w' (some mb)):Ext w w':=by
 obtain ⟨es,clock,hm,-⟩:=h;exact Ext.NF hm hg
theorem fZ.keep {w w':World} {mb:Nat} {nd:Int} {l:List Ro} {X:Nat->Prop} (h:fZ w mb nd l X) (he:Ext w w') (hm:w'.heap[mb]? = w.heap[mb]?):fZ w' mb nd l X:=by
 obtain ⟨es,clock,hb,hes⟩:=h;refine ⟨es,clock,hm.trans hb,λe he'=>?_⟩;obtain ⟨f,k,A,n,c,h1,h2,h3,h4,h5,h6⟩:=hes e he';exact ⟨f,k,A,n,c,h1,h2,h3,h4,h5.ext he,λad ha=>⟨dO (h6 ad ha).1 he.size,(h6 ad ha).2⟩⟩
theorem fZ.below {w w':World} {mb:Nat} {nd:Int} {l:List Ro} {X:Nat->Prop} (h:fZ w mb nd l X) (hb:af w w'):fZ w' mb nd l X:=by
 have h1:=h;obtain ⟨es,clock,hm,-⟩:=h1;exact h.keep (Ext.below hb) (hb.block mb (l_.1 hm).1)
theorem fZ.lt {w:World} {mb:Nat} {nd:Int} {l:List Ro} {X:Nat->Prop} (h:fZ w mb nd l X):mb < w.heap.size:=by
 obtain ⟨es,clock,hm,-⟩:=h;exact (l_.1 hm).1
open Go.MapKept Go.ChangeMaps in
theorem fZ.look {w:World} {mb:Nat} {nd:Int} {l:List Ro} {X:Nat->Prop} (h:fZ w mb nd l X) {f k:Int} (hf:(Lit.int .i64 f).wf=true) (hk:(Lit.int .i64 k).wf=true) :
  ∃ A n c ok,(Instr.lookup 211 (.map (some mb)) (.agg #[.int .i64 f,.int .i64 k]) true).run Tryz.prog w=.ok (.tuple #[.slice A n c,.bool ok]) w/\(ok=true->Ints w A n (K.times nd l f k)):=by
 obtain ⟨es,clock,hb,hes⟩:=h;obtain ⟨kl,hkey⟩:=OH hf hk;have hkeys:∀ e ∈ es.toList,∃ l,keyOf Tryz.prog 224 e.key=some l:=λe he=>by
  obtain ⟨f',k',A,n,c,h1,h2,h3,-⟩:=hes e he;rw [h1];exact OH h2 h3
 rcases Du.find w hkey es.toList hkeys with ⟨h1,h2⟩ | ⟨j,e0,h1,h2,h3⟩
 ·refine ⟨none,0,0,false,?_,λe=>by cases e⟩;simp [Instr.lookup,run_underlying Tryz.underlying211,MapKept.run_getObj_map hb,Du.check w _ hkey,h1,Result.andThen]
 ·obtain ⟨f',k',A,n,c,g1,-,-,g4,g5,-⟩:=hes e0 (zD h2);rw [h3] at g1;injection g1 with g1;simp at g1;obtain ⟨rfl,rfl⟩:=g1;refine ⟨A,n,c,true,?_,λ_=>g5⟩;rw [<-g4];simp [Instr.lookup,run_underlying Tryz.underlying211,MapKept.run_getObj_map hb,Du.check w _ hkey,h1,Result.andThen]
open Go.MapKept Go.ChangeMaps in
theorem fZ.store {w:World} {mb:Nat} {nd:Int} {l:List Ro} {X:Nat->Prop} (h:fZ w mb nd l X) {f k:Int} (hf:(Lit.int .i64 f).wf=true) (hk:(Lit.int .i64 k).wf=true) {A:aj} {n c:Nat} (hv:Ints w A n (K.times nd l f k)) (hA:∀ ad,A=some ad->ad.block < w.heap.size/\¬ X ad.block) :
  ∃ w',(Instr.mapUpdate 211 (.map (some mb)) (.agg #[.int .i64 f,.int .i64 k]) (.slice A n c)).run Tryz.prog w=.ok () w'/\fZ w' mb nd l X/\w.grownBy w' (some mb):=by
 obtain ⟨es,clock,hb,hes⟩:=h;obtain ⟨kl,hkey⟩:=OH hf hk;have hkeys:∀ e ∈ es.toList,∃ l,keyOf Tryz.prog 224 e.key=some l:=λe he=>by
  obtain ⟨f',k',A,n,c,h1,h2,h3,-⟩:=hes e he;rw [h1];exact OH h2 h3
 have hgr:∀ es' clock',w.grownBy (setBlock w mb (.map es' clock')) (some mb):=λes' clock'=>⟨rfl,rfl,rfl,by simp [setBlock],λi _ hi=>heap_setBlock_other hb _ (λe=>hi (by rw [e]))⟩;have hmk:∀ es' clock',(∀ e ∈ es'.toList,e ∈ es.toList\/(e.key=.agg #[.int .i64 f,.int .i64 k]/\e.val=.slice A n c))->fZ (setBlock w mb (.map es' clock')) mb nd l X:=λes' clock' he=>by
  have hx:=Ext.NF hb (hgr es' clock');refine ⟨es',clock',heap_setBlock_same hb _,λe h9=>?_⟩;rcases he e h9 with h9 | ⟨h9,h10⟩
  ·obtain ⟨f',k',A,n,c,h1,h2,h3,h4,h5,h6⟩:=hes e h9;exact ⟨f',k',A,n,c,h1,h2,h3,h4,h5.ext hx,λad ha=>⟨dO (h6 ad ha).1 hx.size,(h6 ad ha).2⟩⟩
  ·exact ⟨f,k,A,n,c,h9,hf,hk,h10,hv.ext hx,λad ha=>⟨dO (hA ad ha).1 hx.size,(hA ad ha).2⟩⟩
 rcases Du.find w hkey es.toList hkeys with ⟨h1,h2⟩ | ⟨j,e0,h1,h2,h3⟩
 ·refine ⟨setBlock w mb (.map (es.push ⟨.agg #[.int .i64 f,.int .i64 k],.slice A n c,clock⟩) (clock + 1)),?_,hmk _ _ ?_,hgr _ _⟩
  ·simp [Instr.mapUpdate,run_underlying Tryz.underlying211,MapKept.run_getObj_map hb,Du.check w false hkey,h1,MapKept.run_setObj_map _ hb,Result.andThen,setBlock]
  ·intro e he;simp only [Array.toList_push,dX,dB] at he;rcases he with he | rfl
   ·exact .inl he
   ·exact .inr ⟨rfl,rfl⟩
 ·have hj:es[j]? = some e0:=by simpa using h2
  refine ⟨setBlock w mb (.map (es.modify j λe=>{ e with key:=.agg #[.int .i64 f,.int .i64 k],val:=.slice A n c }) clock),?_,hmk _ _ ?_,hgr _ _⟩
  ·simp [Instr.mapUpdate,run_underlying Tryz.underlying211,MapKept.run_getObj_map hb,Du.check w false hkey,h1,hj,h3,Du.stays w hkey,MapKept.run_setObj_map _ hb,Result.andThen,setBlock]
  ·intro e he;rw [Array.mem_toList_iff,Array.mem_iff_getElem?] at he;obtain ⟨i,he⟩:=he;rw [Array.getElem?_modify] at he;by_cases hij:j=i
   ·rw [if_pos hij,<-hij,hj] at he;simp at he;subst he;exact .inr ⟨rfl,rfl⟩
   ·rw [if_neg hij] at he;exact .inl (by rw [Array.mem_toList_iff,Array.mem_iff_getElem?];exact ⟨i,he⟩)
theorem aX.ext {α:Type} {f:α->List Value} {s:Nat} {w w':World} {A:aj} {n:Nat} {l:List α} (h:aX f s w A n l) (hb:Ext w w'):aX f s w' A n l:=⟨h.1,h.2.ext hb⟩
theorem dA.ext {w w':World} {A:aj} {n:Nat} {l:List (Int × Int)} (h:dA w A n l) (hb:Ext w w'):dA w' A n l:=⟨h.1,h.2.ext hb⟩
theorem dm.ext {w w':World} {A:aj} {n:Nat} {l:List Q} (h:dm w A n l) (hb:Ext w w'):dm w' A n l:=⟨h.1,h.2.1.ext hb,λq hq=>(h.2.2 q hq).ext hb⟩
theorem At.ext {w w':World} {x:C} (h:At w x) (hb:Ext w w'):At w' x:=⟨aX.ext h.net hb,h.gW.ext hb,h.bf.ext hb,h.b1,h.b2,h.b3,h.b4⟩
structure PS where
 x:C
 A:Option Addr
 n:Nat
 c:Nat
 l:List Int
def yH (w:World) (b mb:Nat) (p:PS):Prop :=
 w.heap[b]? = some (.cells #[.int .i64 p.x.nd,.slice p.x.A p.x.n p.x.c,.int .i64 p.x.s.day,.int .i64 p.x.s.ax,.int .i64 p.x.s.start,.int .i64 p.x.s.end_,.int .i64 p.x.s.aU,.slice p.x.s.A p.x.s.n p.x.s.c,.slice p.x.B p.x.m p.x.d,.slice p.A p.n p.c,.map (some mb)] 213 (0,0))
def aeG (b mb:Nat) (p:PS) (w':World):Prop :=
 aJ w' b 0 p.x.nd/\bT w' b 1 p.x.A p.x.n p.x.c/\aJ w' b 2 p.x.s.day/\aJ w' b 3 p.x.s.ax/\aJ w' b 4 p.x.s.start /\
  aJ w' b 5 p.x.s.end_/\aJ w' b 6 p.x.s.aU/\bT w' b 7 p.x.s.A p.x.s.n p.x.s.c/\bT w' b 8 p.x.B p.x.m p.x.d/\bT w' b 9 p.A p.n p.c/\Gm w' b 10 (.map (some mb))
theorem yH.cells {w:World} {b mb:Nat} {p:PS} (h:yH w b mb p):aeG b mb p w :=
 ⟨ah h 0 _ rfl,ah h 1 _ rfl,ah h 2 _ rfl,ah h 3 _ rfl,ah h 4 _ rfl,ah h 5 _ rfl,ah h 6 _ rfl,ah h 7 _ rfl,ah h 8 _ rfl,ah h 9 _ rfl,ah h 10 _ rfl⟩
structure dZ (w:World) (b mb:Nat) (p:PS) (X:Nat->Prop):Prop where
 at_:At w p.x
 set:Ints w p.A p.n p.l
 blk:yH w b mb p
 memo:fZ w mb p.x.nd p.x.l X
 ok:K.bF p.x.nd p.x.l p.x.s p.x.r p.l=true
 cap:p.n<=p.c
theorem dZ.keep {w w':World} {b mb:Nat} {p:PS} {X:Nat->Prop} (h:dZ w b mb p X) (he:Ext w w') (hm:fZ w' mb p.x.nd p.x.l X):dZ w' b mb p X :=
 ⟨h.at_.ext he,h.set.ext he,he.cells _ _ _ _ h.blk,hm,h.ok,h.cap⟩
theorem dZ.below {w w':World} {b mb:Nat} {p:PS} {X:Nat->Prop} (h:dZ w b mb p X) (hb:af w w'):dZ w' b mb p X:=h.keep (Ext.below hb) (h.memo.below hb)
theorem fZ.more {w:World} {mb:Nat} {nd:Int} {l:List Ro} {X Y:Nat->Prop} (h:fZ w mb nd l X) (hY:∀ g,g < w.heap.size->Y g->X g):fZ w mb nd l Y:=by
 obtain ⟨es,clock,hb,hes⟩:=h;refine ⟨es,clock,hb,λe he'=>?_⟩;obtain ⟨f,k,A,n,c,h1,h2,h3,h4,h5,h6⟩:=hes e he';exact ⟨f,k,A,n,c,h1,h2,h3,h4,h5,λad ha=>⟨(h6 ad ha).1,λhy=>(h6 ad ha).2 (hY _ (h6 ad ha).1 hy)⟩⟩
theorem dZ.more {w:World} {b mb:Nat} {p:PS} {X Y:Nat->Prop} (h:dZ w b mb p X) (hY:∀ g,g < w.heap.size->Y g->X g):dZ w b mb p Y:=⟨h.at_,h.set,h.blk,h.memo.more hY,h.ok,h.cap⟩
theorem fZ.set {w:World} {mb:Nat} {nd:Int} {l:List Ro} {X:Nat->Prop} (h:fZ w mb nd l X) {g:Nat} (hg:X g) (hne:g ≠ mb) (i:Nat) (v:Value):fZ (w.setCell ⟨g,i,none⟩ v) mb nd l X:=by
 obtain ⟨es,clock,hb,hes⟩:=h;refine ⟨es,clock,(iG w _ _ mb (λe=>hne e.symm)).trans hb,λe he'=>?_⟩;obtain ⟨f,k,A,n,c,h1,h2,h3,h4,h5,h6⟩:=hes e he';exact ⟨f,k,A,n,c,h1,h2,h3,h4,h5.set _ (λad ha e2=>(h6 ad ha).2 (by rw [e2];exact hg)),λad ha=>⟨by rw [World.size_setCell];exact (h6 ad ha).1,(h6 ad ha).2⟩⟩
def lJ (w w':World) (b mb:Nat) (p:PS) (X:Nat->Prop):Prop:=w.grownBy w' (some mb)/\dZ w' b mb p X
theorem lJ.ext {w w':World} {b mb:Nat} {p:PS} {X:Nat->Prop} (h:lJ w w' b mb p X) (hp:dZ w b mb p X):Ext w w':=hp.memo.ext h.1
theorem OO {w w':World} {b mb:Nat} {p:PS} {X:Nat->Prop} (hp:dZ w b mb p X) (hb:af w w'):lJ w w' b mb p X:=⟨jg (qy w _) hb,hp.below hb⟩
theorem lJ.trans {w w1 w2:World} {b mb:Nat} {p:PS} {X:Nat->Prop} (h:lJ w w1 b mb p X) (h2:lJ w1 w2 b mb p X):lJ w w2 b mb p X:=⟨grow_step h.1 h2.1 (.inl rfl),h2.2⟩
theorem lJ.below {w w1 w2:World} {b mb:Nat} {p:PS} {X:Nat->Prop} (h:lJ w w1 b mb p X) (h2:af w1 w2):lJ w w2 b mb p X:=h.trans (OO h.2 h2)
def aeK (w w':World) (l:ag) (e:Ending):Prop:=(∃ A n c,e=.returned (.slice A n c)/\Ints w' A n l/\∀ ad,A=some ad->w.heap.size<=ad.block/\ad.block < w'.heap.size)/\af w w'
theorem amb (nd:Int) (A:aj) (n c:Nat) (l:List Ro) (s k:Int) (w:World) (hl:gq w A n l) (hn:n<=1000000000) :
  ay 192 #[.agg #[.int .i64 nd,.slice A n c],.int .i64 s,.int .i64 k] w λe w'=>aeK w w' (K.times nd l s k) e:=by
 have b0:=(dK w).alloc (zG _) (.cells #[.int .i64 nd,.slice A n c] 24);have hP:=Net.new w nd A n c;have p0:=hP.c0;have p1:=hP.c1;cases h1:(K.aZ nd l == 0)
 ·have HX:=zC (K.EY (s:=s) (k:=k) (show (K.aZ nd l == 0 && T.aT s 0 (nd - 1))=false by simp [h1]));have h1':(K.aZ nd l != 0)=true:=by simp [bne,h1]
  go_enter Tryz.func192,Tryz.ntmps192;go_wp2_with fail;refine (xN nd A n c l _ (hl.below b0) hn).mono ?_;rintro e w1 ⟨rfl,hb1⟩;go_wp2_with fail;go_ret;exact ⟨⟨none,0,0,rfl,by rw [HX.out];exact iQ _,λad e=>(nomatch e)⟩,bel b0 hb1⟩
 ·have h1':(K.aZ nd l != 0)=false:=by simp [bne,h1]
  have hne:K.aZ nd l=0:=by simpa using h1
  have HE:=zC hne;obtain ⟨⟨n0,n1⟩,dP,rH,hmin⟩:=K.I7 hne;clear hne;cases h2:T.aT s 0 (nd - 1)
  ·have HX:=zC (K.EY (k:=k) (show (K.aZ nd l == 0 && T.aT s 0 (nd - 1))=false by simp [h2]));go_enter Tryz.func192,Tryz.ntmps192;go_wp2_with fail;refine (xN nd A n c l _ (hl.below b0) hn).mono ?_;rintro e w1 ⟨rfl,hb1⟩;have hP1:=hP.below hb1;have p0:=hP1.c0;have p1:=hP1.c1;go_wp2_with fail;refine (vN _ _ _ _).mono ?_;rintro e w' ⟨rfl,rfl⟩;go_wp2_with fail;go_ret;exact ⟨⟨none,0,0,rfl,by rw [HX.out];exact iQ _,λad e=>(nomatch e)⟩,bel b0 hb1⟩
  ·obtain ⟨s0,s1⟩:=T.lS.1 h2;obtain ⟨m,rfl⟩:∃ m:Nat,nd=(m:Int):=⟨nd.toNat,by omega⟩;obtain ⟨t,rfl⟩:∃ t:Nat,s=(t:Int):=⟨s.toNat,by omega⟩;have HT:=zC (K.OC (k:=k) HE.out h2);have HF:=zC rH;have HM:=zC hmin;clear rH hmin;go_enter Tryz.func192,Tryz.ntmps192;go_wp2_with fail;refine (xN m A n c l _ (hl.below b0) hn).mono ?_;rintro e w1 ⟨rfl,hb1⟩;have hP1:=hP.below hb1;have p0:=hP1.c0;have p1:=hP1.c1;go_wp2_with fail;refine (vN _ _ _ _).mono ?_;rintro e w' ⟨rfl,rfl⟩;go_wp2_with fail;refine (adI m A n c l t k _ (hl.below (bel b0 hb1)) (by rw [hl.1];omega) (by omega) HF.out HM.out (by omega)).mono ?_;rintro e w2 ⟨g,out,rfl,hg,hI,hD,hb2⟩;have HE2:=zC (G.wu.eq HT.out hD);have hol:=hD.1;have oL:=zC hol;clear hD hol;go_wp2_with fail;go_ret;have hi:=hI.ints;rw [oL.out] at hi;have hs1:=(bel b0 hb1).size;exact ⟨⟨_,_,_,rfl,by rw [HE2.out];exact hi,λad e=>by injection e with e;subst e;exact ⟨aN hs1 hg,hI.lt⟩⟩,bel (bel b0 hb1) hb2⟩
end
namespace K
theorem jl {nd:Int} {l:List Ro} {s:S} {r:List Q} {v:ag} (h:bF nd l s r v=true):aZ nd l=0/\T.check s=0/\s.ax < nd/\(∀ q ∈ r,T.right q=true)/\v.length<=6/\l9 nd r (-1) v=true:=by
 simp only [bF,dH,beq_iff_eq,gu,Bool.not_eq_true',List.any_eq_false] at h;exact ⟨h.1,h.2.1,h.2.2.1,λq hq=>by have:=h.2.2.2.1 q hq;simpa using this,h.2.2.2.2.1,h.2.2.2.2.2⟩
end K
theorem aj7 (q:Q) (w:World) (hl:dA w q.A q.n q.l) (hn:q.n<=1000000000) :
  ay 174 #[iL q] w (bg w (!T.right q)):=by
 go_enter Tryz.func174,Tryz.ntmps174;go_wp2_with fail;refine (OG q _ (hl.below ?_) hn).mono ?_
 ·exact ai.alloc (zG _) _
 rintro e w1 ⟨rfl,hb1⟩;go_wp2_with fail;go_ret;exact ⟨rfl,bel (ai.alloc (zG _) _) hb1⟩
theorem aih (A:aj) (n c:Nat) (l:List Q) (w:World) (hl:dm w A n l) (hn:n<=1000000000) (hq:∀ q ∈ l,q.n<=1000000000) :
  ay 202 #[.slice A n c,.func (.func 174) #[] #[]] w λe w'=>(∃ i:Int,e=.returned (.int .i64 i)/\(decide (0<=i))=l.any λq=>!T.right q)/\af w w':=by
 go_enter Tryz.func202,Tryz.ntmps202;go_wp2_with fail;go_loopw [8] (λvi wr=>∃ k:Nat,vi=.int .i64 k/\k<=n/\Hid ((l.any λq=>!T.right q)=(l.drop k).any λq=>!T.right q)/\af w wr) (λvi _=>n - (intOf vi).toNat)
 case atStart=>exact ⟨0,rfl,by omega,by show _=_;rw [List.drop_zero],ai⟩
 case round =>
  obtain ⟨k,rfl,hk,hr,hbr⟩:=hrel;by_cases hlt:k < n
  ·obtain ⟨ad,q,rfl,hg,hwq,c0,c1,c2,c3,c4,c5,c6⟩:=(hl.below hbr).at_ hlt;have fU:=hq q (zD hg);have HS:=zC (oU (p:=λq=>!T.right q) hg);clear hg;go_wp2_with fail;refine (aj7 q _ hwq fU).mono ?_;rintro e w1 ⟨rfl,hb1⟩;cases hpx:T.right q
   ·go_wp2_with fail;go_ret;exact ⟨⟨k,rfl,by rw [hr.out,HS.out,hpx];simp⟩,bel hbr hb1⟩
   ·go_wp2_with fail;go_roundw
    case rel=>exact ⟨k + 1,by go_num,by omega,by show _=_;rw [hr.out,HS.out,hpx];rfl,bel hbr hb1⟩
    case measure=>simp [intOf];omega
  ·have hd:l.drop k=[]:=dF (by rw [<-hl.1];omega);have HD:=zC hd;clear hd;go_wp2_with fail;go_ret;exact ⟨⟨-1,rfl,by rw [hr.out,HD.out];rfl⟩,hbr⟩
theorem af6 (A:aj) (n c:Nat) (l:List Q) (w:World) (hl:dm w A n l) (hn:n<=1000000000) (hq:∀ q ∈ l,q.n<=1000000000) :
  ay 175 #[.slice A n c,.func (.func 174) #[] #[]] w (bg w (l.any λq=>!T.right q)):=by
 go_enter Tryz.func175,Tryz.ntmps175;go_wp2_with fail;refine (aih A n c l _ hl hn hq).mono ?_;rintro e w1 ⟨⟨i,rfl,hi⟩,hb1⟩;go_wp2_with fail;go_ret;exact ⟨rfl,hb1⟩
def Xh (x:C) (V:aj) (vn vc:Nat) (v:ag) (w w':World) (e:Ending):Prop :=
 ((K.bF x.nd x.l x.s x.r v=false/\e=.returned (.tuple #[.pointer none,.bool false])) \/
  ∃ b mb,e=.returned (.tuple #[.pointer (some ⟨b,0,none⟩),.bool true])/\w.heap.size<=b/\w.heap.size<=mb/\(∀ X,dZ w' b mb ⟨x,V,vn,vc,v⟩ X))/\af w w'
theorem vS {x:C} {V:aj} {vn vc:Nat} {v:ag} {w w':World} (h:K.bF x.nd x.l x.s x.r v=false) (hb:af w w'):Xh x V vn vc v w w' (.returned (.tuple #[.pointer none,.bool false])):=⟨.inl ⟨h,rfl⟩,hb⟩
theorem Vl (x:C) (V:aj) (vn vc:Nat) (v:ag) (w:World) (hx:At w x) (hV:Ints w V vn v) (jV:vn<=vc) (hvn:vn<=1000000000) :
  ay 128 #[.agg #[.int .i64 x.nd,.slice x.A x.n x.c],fG x.s,.slice x.B x.m x.d,.slice V vn vc] w λe w'=>Xh x V vn vc v w w' e:=by
 have b0:=((dK w).alloc (zG _) (.cells #[.int .i64 x.nd,.slice x.A x.n x.c] 24)).alloc (by rw [aF];omega) (.cells #[.int .i64 x.s.day,.int .i64 x.s.ax,.int .i64 x.s.start,.int .i64 x.s.end_,.int .i64 x.s.aU,.slice x.s.A x.s.n x.s.c] 63);have SZ:=aF w (.cells #[.int .i64 x.nd,.slice x.A x.n x.c] 24);have hP:=(Net.new w x.nd x.A x.n x.c).below (ai.alloc (zG _) (.cells #[.int .i64 x.s.day,.int .i64 x.s.ax,.int .i64 x.s.start,.int .i64 x.s.end_,.int .i64 x.s.aU,.slice x.s.A x.s.n x.s.c] 63));have hS:=bI.new (w.alloc (.cells #[.int .i64 x.nd,.slice x.A x.n x.c] 24)) x.s;rw [SZ] at hS;have p0:=hP.c0;have p1:=hP.c1;go_enter Tryz.func128,Tryz.ntmps128;go_wp2_with fail;obtain ⟨w0,hw0⟩:=zB ((w.alloc (.cells #[.int .i64 x.nd,.slice x.A x.n x.c] 24)).alloc (.cells #[.int .i64 x.s.day,.int .i64 x.s.ax,.int .i64 x.s.start,.int .i64 x.s.end_,.int .i64 x.s.aU,.slice x.s.A x.s.n x.s.c] 63));rw [<-hw0] at b0 hP hS ⊢;clear hw0 p0 p1 SZ;refine (xN x.nd x.A x.n x.c x.l _ (aX.below hx.net b0) hx.b1).mono ?_;rintro e w1 ⟨rfl,b1⟩;have hP:=hP.below b1;have hS:=hS.below b1;have hb:=bel b0 b1;clear b0 b1;obtain ⟨s0,s1,s2,s3,s4,s5⟩:=hS.cells;cases h1:(K.aZ x.nd x.l == 0)
 ·have h1':(K.aZ x.nd x.l != 0)=true:=by simp [bne,h1]
  have HX:=zC (show K.bF x.nd x.l x.s x.r v=false by simp [K.bF,h1]);go_wp2_with fail;go_ret2
  exact vS HX.out hb
 have h1':(K.aZ x.nd x.l != 0)=false:=by simp [bne,h1]
 go_wp2_with fail;refine (check_any x.s _ (hx.below hb).gW hx.b2).mono ?_;rintro e w2 ⟨rfl,b2⟩;have hP:=hP.below b2;have hS:=hS.below b2;have hb:=bel hb b2;clear b2 s0 s1 s2 s3 s4 s5;have p0:=hP.c0;obtain ⟨s0,s1,s2,s3,s4,s5⟩:=hS.cells;cases h2:(T.check x.s == 0)
 ·have h2':(T.check x.s != 0)=true:=by simp [bne,h2]
  have HX:=zC (show K.bF x.nd x.l x.s x.r v=false by simp [K.bF,h2]);go_wp2_with fail;go_ret2
  exact vS HX.out hb
 have h2':(T.check x.s != 0)=false:=by simp [bne,h2]
 cases h3:decide (x.nd<=x.s.ax);rotate_left
 ·have h3':x.nd<=x.s.ax:=iH h3;have HX:=zC (show K.bF x.nd x.l x.s x.r v=false by simp [K.bF];intros;omega);go_wp2_with fail;go_ret2
  exact vS HX.out hb
 have h3':¬ x.nd<=x.s.ax:=of_decide_eq_false h3;go_wp2_with fail;refine (af6 x.B x.m x.d x.r _ (hx.below hb).bf hx.b3 hx.b4).mono ?_;rintro e w3 ⟨rfl,b3⟩;have hP:=hP.below b3;have hS:=hS.below b3;have hb:=bel hb b3;clear b3 s0 s1 s2 s3 s4 s5 p0;obtain ⟨s0,s1,s2,s3,s4,s5⟩:=hS.cells;cases h4:(x.r.any λq=>!T.right q);rotate_left
 ·have HX:=zC (show K.bF x.nd x.l x.s x.r v=false by simp only [K.bF,h4];simp);go_wp2_with fail;go_ret2
  exact vS HX.out hb
 cases h5:decide ((6:Int) < (vn:Int));rotate_left
 ·have h5':6 < vn:=by have:=iH h5;omega
  have HX:=zC (show K.bF x.nd x.l x.s x.r v=false by simp [K.bF];intros;have:=hV.1;omega);go_wp2_with fail;go_ret2
  exact vS HX.out hb
 have h5':vn<=6:=by have:=of_decide_eq_false h5;omega
 have HX:=zC (show K.bF x.nd x.l x.s x.r v=K.l9 x.nd x.r (-1) v by
  simp only [K.bF,h1,h2,h4];simp [show x.s.ax < x.nd by omega,show v.length<=6 by have:=hV.1;omega])
 clear h1 h2 h3 h4;have bM:=zC hV.1;go_wp2_with fail;go_loopw [40] (λv40 wr=>∃ k:Nat,v40=.int .i64 k/\k<=vn/\Hid (K.bF x.nd x.l x.s x.r v=K.l9 x.nd x.r (K.prev v k) (v.drop k))/\af w3 wr) (λv40 _=>vn - (intOf v40).toNat)
 case atStart=>exact ⟨0,rfl,by omega,HX.out,ai⟩
 case round =>
  clear HX s0 s1 s2 s3 s4 s5;obtain ⟨k,rfl,hk,hr,hbr⟩:=hrel;have hbw:=bel hb hbr;have y_:=hP.below hbr;have p0:=y_.c0;by_cases hlt:k < vn
  ·obtain ⟨jJ,i,rfl,hi,ci⟩:=(hV.below hbw).at_ hlt;have HR:=zC (show K.bF x.nd x.l x.s x.r v=_ from hr.out.trans (K.alH hi (K.prev v k)));have bH:=zC (show K.prev v (k + 1)=i by simp [K.prev,hi]);have HI:=zC hi;clear hi hr;obtain ⟨k0,k1⟩:=zJ (a:=k) (b:=vn) (by omega);cases c1:decide (i < 0);rotate_left
   ·have HX:=zC (show K.bF x.nd x.l x.s x.r v=false by rw [HR.out];have:=iH c1;simp;omega);go_wp2_with fail;go_quiet (fail);go_wp2_with fail;go_ret2
    exact vS HX.out (below_drewN hbw _)
   have hi0:¬ i < 0:=of_decide_eq_false c1;obtain ⟨j,rfl⟩:∃ j:Nat,i=(j:Int):=⟨i.toNat,by omega⟩;cases c2:decide (x.m<=j);rotate_left
   ·have c2':decide ((x.m:Int)<=(j:Int))=true:=by simpa using c2
    have HX:=zC (show K.bF x.nd x.l x.s x.r v=false by rw [HR.out];have:=iH c2;have:=hx.bf.1;simp;omega);go_wp2_with fail;go_quiet (fail);go_wp2_with fail;go_ret2
    exact vS HX.out (below_drewN hbw _)
   have c2':decide ((x.m:Int)<=(j:Int))=false:=by simpa using c2
   have hjm:j < x.m:=by have:=of_decide_eq_false c2;omega
   obtain ⟨ad,q,hB,hgq,-,e0,-⟩:=(hx.bf.below hbw).at_ hjm;have fQ:=zC (K.lZ hgq);obtain ⟨j0,j1⟩:=zJ (a:=j) (b:=x.m) (by omega);have hrl:x.m=x.r.length:=hx.bf.1;have sN:=zC hrl;clear hgq hrl;rw [hB];cases c5:decide (x.nd<=q.node)
   ·have h5:¬ x.nd<=q.node:=of_decide_eq_false c5;rcases Nat.eq_zero_or_pos k with hk0 | hk0
    ·have k2:decide ((0:Int) < (k:Int))=false:=by simp;omega
     have IG:decide (0 < k)=false:=by simp;omega
     have JI:=zC hk0;clear hk0;have HN:=zC (show K.bF x.nd x.l x.s x.r v=K.l9 x.nd x.r (K.prev v (k + 1)) (v.drop (k + 1)) by
      rw [HR.out,fQ.out,bH.out,show K.prev v k=-1 by rw [JI.out];rfl];simp [show j < x.r.length by rw [<-sN.out];exact hjm,show q.node < x.nd by omega,show (-1:Int) < (j:Int) by omega])
     go_wp2_with fail;go_quiet (fail);go_wp2_with fail;go_roundw
     case rel=>exact ⟨k + 1,by go_num,by omega,HN.out,below_drewN hbr _⟩
     case measure=>simp [intOf];omega
    ·obtain ⟨kp,hkp⟩:∃ kp:Nat,k=kp + 1:=⟨k - 1,by omega⟩;obtain ⟨XA,pv,ep,hp,cp⟩:=(hV.below hbw).at_ (k:=kp) (by omega);injection ep with ep;subst ep;have FO:=zC (show K.prev v k=pv by rw [hkp];simp [K.prev,hp]);have k2:decide ((0:Int) < (k:Int))=true:=by simp;omega
     have IG:decide (0 < k)=true:=by simp;omega
     have k3:IntKind.i64.wrap ((k:Int) - 1)=(kp:Int):=by rw [dh _ (by omega)];omega
     have k4:(kp:Int) < (vn:Int):=by omega
     have k5:(0:Int)<=(kp:Int):=by omega
     have Wv:=zC hkp;clear hp hkp;cases c4:decide ((j:Int)<=pv)
     ·have HN:=zC (show K.bF x.nd x.l x.s x.r v=K.l9 x.nd x.r (K.prev v (k + 1)) (v.drop (k + 1)) by
       have:=of_decide_eq_false c4;rw [HR.out,fQ.out,bH.out,FO.out];simp [show j < x.r.length by rw [<-sN.out];exact hjm,show q.node < x.nd by omega,show pv < (j:Int) by omega])
      go_wp2_with fail;go_quiet (fail);go_wp2_with fail;go_roundw
      case rel=>exact ⟨k + 1,by go_num,by omega,HN.out,below_drewN hbr _⟩
      case measure=>simp [intOf];omega
     ·have HX:=zC (show K.bF x.nd x.l x.s x.r v=false by rw [HR.out,FO.out];have:=iH c4;simp;omega);go_wp2_with fail;go_quiet (fail);go_wp2_with fail;go_ret2
      exact vS HX.out (below_drewN hbw _)
   ·have HX:=zC (show K.bF x.nd x.l x.s x.r v=false by rw [HR.out,fQ.out];have:=iH c5;simp;omega);rcases Nat.eq_zero_or_pos k with hk0 | hk0
    ·have k2:decide ((0:Int) < (k:Int))=false:=by simp;omega
     have IG:decide (0 < k)=false:=by simp;omega
     have JI:=zC hk0;clear hk0;go_wp2_with fail;go_quiet (fail);go_wp2_with fail;go_ret2
     exact vS HX.out (below_drewN hbw _)
    ·obtain ⟨kp,hkp⟩:∃ kp:Nat,k=kp + 1:=⟨k - 1,by omega⟩;obtain ⟨XA,pv,ep,hp,cp⟩:=(hV.below hbw).at_ (k:=kp) (by omega);injection ep with ep;subst ep;have k2:decide ((0:Int) < (k:Int))=true:=by simp;omega
     have IG:decide (0 < k)=true:=by simp;omega
     have k3:IntKind.i64.wrap ((k:Int) - 1)=(kp:Int):=by rw [dh _ (by omega)];omega
     have k4:(kp:Int) < (vn:Int):=by omega
     have k5:(0:Int)<=(kp:Int):=by omega
     have Wv:=zC hkp;clear hp hkp;cases c4:decide ((j:Int)<=pv)
     all_goals
      go_wp2_with fail;go_quiet (fail);go_wp2_with fail;go_ret2
      exact vS HX.out (below_drewN hbw _)
  ·have HN:=zC (show K.bF x.nd x.l x.s x.r v=true by rw [hr.out,dF (by rw [<-bM.out];omega)];rfl);have hSr:=hS.below hbr;have p1:=y_.c1;obtain ⟨s0,s1,s2,s3,s4,s5⟩:=hSr.cells;have hmm:=@run_makeMap Tryz.prog;have bm:af wr (wr.alloc (.map #[] 0)):=ai.alloc (zG _) _;have hM:∀ X,fZ (wr.alloc (.map #[] 0)) wr.heap.size x.nd x.l X:=λX=>⟨#[],0,aA _ _,λe he=>by simp at he⟩;have hz:(wr.alloc (.map #[] 0)).heap.size=wr.heap.size + 1:=aF _ _;have HZ:=zC hz;clear hz;obtain ⟨wm,hwm⟩:=zB (wr.alloc (.map #[] 0));rw [<-hwm] at bm hM HZ;have ZB:=y_.below bm;have hSm:=hSr.below bm;have hbm:=bel hbw bm;have hs9:=hbw.size;go_wp2_with fail;rw [<-hwm,<-HZ.out];go_ret2
   clear hwm hmm;have b9:af wm (wm.alloc (.cells #[.int .i64 x.nd,.slice x.A x.n x.c,.int .i64 x.s.day,.int .i64 x.s.ax,.int .i64 x.s.start,.int .i64 x.s.end_,.int .i64 x.s.aU,.slice x.s.A x.s.n x.s.c,.slice x.B x.m x.d,.slice V vn vc,.map (some wr.heap.size)] 213)):=ai.alloc (zG _) _;refine ⟨.inr ⟨wm.heap.size,wr.heap.size,rfl,by rw [HZ.out];omega,hs9,λX=>?_⟩,bel hbm b9⟩;exact ⟨(hx.below (bel hbm b9)),hV.below (bel hbm b9),aA _ _,(hM X).below b9,HN.out,jV⟩
namespace K
def part:List Int->Nat->List Int
 | [],_=>[]
 | i :: r,m=>if m.testBit 0=true then i :: part r (m / 2) else part r (m / 2)
theorem EQ (i:Int):∀ (l:ag) (m:Nat),part (l ++ [i]) m=part l m ++ if m.testBit l.length=true then [i] else []
 | [],m=>by simp [part]
 | j :: r,m=>by
  have ih:=EQ i r (m / 2);have hb:m.testBit (r.length + 1)=(m / 2).testBit r.length:=Nat.testBit_succ _ _;simp only [List.cons_append,part,dQ,ih,hb];split <;> simp
theorem qM:∀ (l:ag) (m:Nat),(part l m).length<=l.length
 | [],_=>zG _
 | j :: r,m=>by
  have ih:=qM r (m / 2);simp only [part,dQ];split <;> simp <;> omega
theorem Vb:∀ (l:ag) (m:Nat),(part l m).Sublist l
 | [],_=>List.Sublist.refl _
 | j :: r,m=>by
  have ih:=Vb r (m / 2);simp only [part];split
  ·exact ih.cons_cons _
  ·exact ih.cons _
end K
theorem afl:∀ m:Fin 256,∀ k:Fin 8,bits .and .i64 ((m.val:Int) / 2 ^ k.val) 1=if m.val.testBit k.val=true then 1 else 0:=by decide +kernel
theorem afn:∀ m:Fin 64,∀ k:Fin 6,m.val.testBit k.val=true->bits .andNot .i64 (m.val:Int) (2 ^ k.val)=((m.val - 2 ^ k.val:Nat):Int):=by decide +kernel
theorem afo:∀ m:Fin 64,∀ k:Fin 6,m.val.testBit k.val=false->bits .or .i64 (m.val:Int) (2 ^ k.val)=((m.val + 2 ^ k.val:Nat):Int):=by decide +kernel
theorem oP {m k:Nat} (hm:m < 256) (hk:k < 8):bits .and .i64 ((m:Int) / 2 ^ k) 1=if m.testBit k=true then 1 else 0:=afl ⟨m,hm⟩ ⟨k,hk⟩
theorem afm {m k:Nat} (hm:m < 64) (hk:k < 6) (h:m.testBit k=true):bits .andNot .i64 (m:Int) (2 ^ k)=((m - 2 ^ k:Nat):Int):=afn ⟨m,hm⟩ ⟨k,hk⟩ h
theorem KG {m k:Nat} (hm:m < 64) (hk:k < 6) (h:m.testBit k=false):bits .or .i64 (m:Int) (2 ^ k)=((m + 2 ^ k:Nat):Int):=afo ⟨m,hm⟩ ⟨k,hk⟩ h
theorem acg (b mb:Nat) (p:PS) (m:Nat) (w:World) {X:Nat->Prop} (hp:dZ w b mb p X) (hm:m < 256) :
  ay 191 #[.pointer (some ⟨b,0,none⟩),.int .i64 m] w λe w'=>JZ w w' (K.part p.l m) e:=by
 obtain ⟨c0,c1,c2,c3,c4,c5,c6,c7,c8,c9,c10⟩:=hp.blk.cells;obtain ⟨hne,hck,hdp,hrq,dP,hgo⟩:=K.jl hp.ok;have hset:=hp.set;have bM:=zC hset.1;have nP:p.n<=6:=by rw [hset.1];exact dP
 clear hne hck hdp hrq dP hgo;go_enter Tryz.func191,Tryz.ntmps191;go_wp2_with fail;go_loopw [5,13] (λv5 v13 wr=>∃ (k:Nat),v13=.int .i64 k/\k<=p.n/\wr.ownsRow w.heap.size 3 1 v5 (K.part (p.l.take k) m).length (intCells (K.part (p.l.take k) m))/\af w wr) (λ_ v13 _=>p.n - (intOf v13).toNat)
 case atStart=>exact ⟨0,rfl,by omega,kF _ _ _ _,ai⟩
 case round =>
  clear c0 c1 c2 c3 c4 c5 c6 c7 c8 c9 c10;obtain ⟨k,rfl,hk,hown,hbr⟩:=hrel;by_cases hlt:k < p.n
  ·obtain ⟨jJ,i,hA,hi,ci⟩:=(hset.below hbr).at_ hlt;obtain ⟨k0,k1⟩:=zJ (a:=k) (b:=p.n) (by omega);have HT:=zC (take_snoc hi);have sQ:=zC (show (p.l.take k).length=k by rw [List.length_take,<-bM.out];omega);have hpl:(K.part (p.l.take k) m).length<=6:=by have:=K.qM (p.l.take k) m;rw [sQ.out] at this;omega
   clear hi;cases hbit:m.testBit k
   ·have hb1:bits BinOp.and IntKind.i64 ((m:Int) / 2 ^ k) 1=0:=by rw [oP hm (by omega),hbit];rfl
    have HN:=zC (show K.part (p.l.take (k + 1)) m=K.part (p.l.take k) m by rw [HT.out,K.EQ,sQ.out,hbit];simp);clear hbit;rw [hA];go_wp2_with fail;go_roundw
    case rel=>exact ⟨k + 1,by go_num,by omega,by rw [HN.out];exact hown,hbr⟩
    case measure=>simp [intOf];omega
   ·have hb1:bits BinOp.and IntKind.i64 ((m:Int) / 2 ^ k) 1=1:=by rw [oP hm (by omega),hbit];rfl
    have HN:=zC (show K.part (p.l.take (k + 1)) m=K.part (p.l.take k) m ++ [i] by rw [HT.out,K.EQ,sQ.out,hbit];simp);have ha:af wr (wr.alloc (.cells #[.int .i64 i] 3)):=ai.alloc (zG _) _;have hown2:=own_below hown ha;have hs2:w.heap.size<=(wr.alloc (.cells #[.int .i64 i] 3)).heap.size:=aN hbr.size ha.size;clear hbit;rw [hA];go_wp2_with (at_builtin;refine wU rfl (.tmp 23) (.tmp 25) rfl w.heap.size u5 (K.part (p.l.take k) m).length (K.part (p.l.take k) m) rfl hown2 wr.heap.size i rfl (bU _ _ _ rfl) (by omega) hs2 ?_;intro tv' w6 hown6 hgrow6 gy);have b6:=dY (bel hbr ha) hgrow6 (λg e=>(hown.lt g e).1);have HS:=zC (show (K.part (p.l.take k) m).length + 1=(K.part (p.l.take (k + 1)) m).length by rw [HN.out,cZ];rfl);rw [<-HN.out,HS.out] at hown6;clear hgrow6 gy hown2 hown;go_roundw
    case rel=>exact ⟨k + 1,by go_num,by omega,hown6,b6⟩
    case measure=>simp [intOf];omega
  ·have HN:=zC (show p.l.take k=p.l by exact fD (by rw [<-bM.out];omega));rw [HN.out] at hown;obtain ⟨A9,c9,rfl,hI⟩:=o_ hown rfl;go_wp2_with fail;go_ret;exact ⟨⟨_,_,_,rfl,hI⟩,hbr⟩
def kL (w:World) (b:Nat) (x:C) (w':World):Prop :=
 af w w'/\aJ w' b 0 x.nd/\bT w' b 1 x.A x.n x.c/\aJ w' (b + 1) 0 x.s.day/\aJ w' (b + 1) 1 x.s.ax/\aJ w' (b + 1) 2 x.s.start /\
  aJ w' (b + 1) 3 x.s.end_/\aJ w' (b + 1) 4 x.s.aU/\bT w' (b + 1) 5 x.s.A x.s.n x.s.c
theorem kL.mk' {w:World} {b:Nat} {x:C} (hP:Net w b x.nd x.A x.n x.c) (hS:bI w (b + 1) x.s) {w':World} (hb:af w w'):kL w b x w':=by
 have h1:=hP.below hb;have h2:=hS.below hb;obtain ⟨s0,s1,s2,s3,s4,s5⟩:=h2.cells;exact ⟨hb,h1.c0,h1.c1,s0,s1,s2,s3,s4,s5⟩
theorem b_ {w:World} {g:Nat} {cs:Array Value} {t:TypeId} (h:w.heap[g]? = some (.cells cs t (0,0))) (i:Nat):w.frozen? ⟨g,i,none⟩=false:=by simp [World.frozen?,h]
theorem Ints.take {w:World} {A:aj} {n:Nat} {l:ag} (h:Ints w A n l) {k:Nat} (hk:k<=n):Ints w A k (l.take k):=by
 refine ⟨by rw [List.length_take,<-h.1];omega,by simp [intCells];have:=h.1;omega,λh0=>?_⟩;obtain ⟨ad,e,hc⟩:=h.2.2 (by omega);refine ⟨ad,e,λj u hu=>hc j u ?_⟩;rw [intCells,List.map_take,List.getElem?_take] at hu;split at hu
 ·exact hu
 ·cases hu
theorem E5 {k:Int} (h0:-4000000000<=k) (h1:k<=4000000000):(Lit.int .i64 k).wf=true:=by
 have e1:IntKind.i64.min=-9223372036854775808:=by decide
 have e2:IntKind.i64.max=9223372036854775807:=by decide
 simp only [Lit.wf,gu,dH];omega
theorem K.abG {nd:Int} {l:List Ro} (h:K.aZ nd l=0):0<=nd/\nd<=100:=by
 unfold K.aZ at h;cases hb:T.aT nd 0 100
 ·rw [if_pos hb] at h;cases h
 ·simpa [T.aT] using hb
def LP (w:World) (b mb:Nat) (p:PS) (w':World):Prop:=af w w'/\aJ w' b 0 p.x.nd/\bT w' b 1 p.x.A p.x.n p.x.c/\aJ w' b 2 p.x.s.day/\aJ w' b 3 p.x.s.ax/\aJ w' b 4 p.x.s.start /\
  aJ w' b 5 p.x.s.end_/\aJ w' b 6 p.x.s.aU/\bT w' b 7 p.x.s.A p.x.s.n p.x.s.c/\bT w' b 8 p.x.B p.x.m p.x.d/\bT w' b 9 p.A p.n p.c/\Gm w' b 10 (.map (some mb))
theorem LP.mk' {w:World} {b mb:Nat} {p:PS} (hp:yH w b mb p) {w':World} (hb:af w w'):LP w b mb p w':=⟨hb,yH.cells (w:=w') (au hb hp)⟩
def LQ (w:World) (b mb g:Nat) (fr wt:Int) (p:PS) (w':World):Prop:=af w w'/\aJ w' g 0 fr/\aJ w' g 1 wt/\aJ w' b 0 p.x.nd/\bT w' b 1 p.x.A p.x.n p.x.c/\aJ w' b 2 p.x.s.day/\aJ w' b 3 p.x.s.ax/\aJ w' b 4 p.x.s.start /\
  aJ w' b 5 p.x.s.end_/\aJ w' b 6 p.x.s.aU/\bT w' b 7 p.x.s.A p.x.s.n p.x.s.c/\bT w' b 8 p.x.B p.x.m p.x.d/\bT w' b 9 p.A p.n p.c/\Gm w' b 10 (.map (some mb))
def DT (w:World) (g:Nat) (fr wt:Int):Prop:=w.heap[g]? = some (.cells #[.int .i64 fr,.int .i64 wt] 224 (0,0))
theorem LQ.mk' {w:World} {b mb g:Nat} {fr wt:Int} {p:PS} (hp:yH w b mb p) (hT:DT w g fr wt) {w':World} (hb:af w w'):LQ w b mb g fr wt p w' :=
 ⟨hb,ah (au hb hT) 0 _ rfl,ah (au hb hT) 1 _ rfl,yH.cells (w:=w') (au hb hp)⟩
def Xo (w w':World) (b mb:Nat) (p:PS) (X:Nat->Prop) (y:Int) (e:Ending):Prop:=e=.returned (.tuple #[.int .i64 y,.bool (y != -1)])/\lJ w w' b mb p X
theorem ael (b mb:Nat) (p:PS) (fr:Int) (tn m:Nat) (w:World) {X:Nat->Prop} (hp:dZ w b mb p X) (hX:∀ g,X g->g < w.heap.size) (hm:m < 256) (hfr:0<=fr/\fr < p.x.nd) (hto:(tn:Int) < p.x.nd) (hwt:(Lit.int .i64 (T.weight p.x.s p.x.r (K.part p.l m))).wf=true) :
  ay 141 #[.pointer (some ⟨b,0,none⟩),.int .i64 fr,.int .i64 tn,.int .i64 m] w λe w'=>Xo w w' b mb p X (K.way p.x.nd p.x.l fr (T.weight p.x.s p.x.r (K.part p.l m)) tn) e:=by
 obtain ⟨hne,hck,hdp,hrq,dP,-⟩:=K.jl hp.ok;have hpl:(K.part p.l m).length<=6:=aN (K.qM _ _) dP;have S0:=LP.mk' hp.blk (dK w);have vg:∀ w',LP w b mb p w'->dZ w' b mb p X:=λw' h=>hp.below h.1;have lC:∀ w' w'',LP w b mb p w'->af w' w''->LP w b mb p w'':=λw' w'' h hb'=>LP.mk' hp.blk (bel h.1 hb');have hSd:∀ w',LP w b mb p w'->LP w b mb p w'.drew:=λw' h=>LP.mk' hp.blk h.1.drew;have fK:∀ w' o',LP w b mb p w'->LP w b mb p (w'.alloc o'):=λw' o' h=>LP.mk' hp.blk (bel h.1 (ai.alloc (zG _) _));have rE:∀ (w':World) (g i:Nat) (v:Value),LP w b mb p w'->w.heap.size<=g->LP w b mb p (w'.setCell ⟨g,i,none⟩ v):=λw' g i v h hg=>LP.mk' hp.blk (h.1.setCell hg _);obtain ⟨c1,c2,c3,c4⟩:p.x.n<=1000000000/\p.x.s.n<=1000000000/\p.x.m<=1000000000/\∀ q ∈ p.x.r,q.n<=1000000000:=⟨hp.at_.b1,hp.at_.b2,hp.at_.b3,hp.at_.b4⟩;obtain ⟨wt,Um⟩:=zB (T.weight p.x.s p.x.r (K.part p.l m));rw [<-Um] at hwt ⊢;have yE:=zC Um;clear hck hdp hrq dP Um;go_enter Tryz.func141,Tryz.ntmps141;go_wp2_with fail;go_cut [10] from 13 to 26 (λv10 wc=>∃ g,v10=.pointer (some ⟨g,0,none⟩)/\w.heap.size<=g/\DT wc g fr wt/\af w wc)
 case first =>
  go_region_held3 (λw'=>af w w'/\w'.cell? ⟨b,0,none⟩=some (.int .i64 p.x.nd)/\w'.cell? ⟨b,1,none⟩=some (.slice p.x.A p.x.n p.x.c)/\w'.cell? ⟨b,2,none⟩=some (.int .i64 p.x.s.day)/\w'.cell? ⟨b,3,none⟩=some (.int .i64 p.x.s.ax)/\w'.cell? ⟨b,4,none⟩=some (.int .i64 p.x.s.start) /\
  w'.cell? ⟨b,5,none⟩=some (.int .i64 p.x.s.end_)/\w'.cell? ⟨b,6,none⟩=some (.int .i64 p.x.s.aU)/\w'.cell? ⟨b,7,none⟩=some (.slice p.x.s.A p.x.s.n p.x.s.c)/\w'.cell? ⟨b,8,none⟩=some (.slice p.x.B p.x.m p.x.d)/\w'.cell? ⟨b,9,none⟩=some (.slice p.A p.n p.c)/\w'.cell? ⟨b,10,none⟩=some (.map (some mb)))
   (first | assumption | exact S0 | exact hSd _ (by assumption) | exact fK _ _ (by assumption) | exact fK _ _ (hSd _ S0) | exact rE _ _ _ _ (rE _ _ _ _ (by assumption) (by first | omega | exact hS1.1.size | exact hS2.1.size)) (by first | omega | exact hS1.1.size | exact hS2.1.size))
   (first
    | (go_at_call 191;refine (acg b mb p m _ (vg _ ?_) hm).mono ?_;assumption;rintro e w3 ⟨⟨A9,n9,c9,rfl,hI⟩,hbn⟩;have hS1:=lC _ _ (by assumption) hbn;
        (first | (have hT1:=au hbn (aA _ (.cells #[.int .i64 0,.int .i64 0] 224))) | skip))
    | (go_at_call 190;refine (VU p.x.s p.x.B p.x.m p.x.d p.x.r A9 n9 c9 (K.part p.l m) _ (vg _ ?_).at_.gW c2 (vg _ ?_).at_.bf c3 c4 ?_ (by rw [hI.1];omega)).mono ?_;assumption;assumption;(first | exact hI | exact hI.below (ai.alloc (zG _) _));rw [<-yE.out];rintro e w4 ⟨rfl,jM⟩;have hS2:=lC _ _ (by assumption) jM;
        (first | (have hT2:=au jM hT1) | (have hT2:=au jM (aA _ (.cells #[.int .i64 0,.int .i64 0] 224))) | skip);
        (first | (have hu0:=ah hT2 0 _ rfl;have hu1:=ah hT2 1 _ rfl;have huf:=b_ hT2) | skip)))
  ·go_wp2_with fail;go_meet
   case rel=>exact ⟨_,rfl,hS2.1.size,aA _ _,bel hS2.1 (ai.alloc (zG _) _)⟩
  ·have hg:_:=hS1.1.size;go_wp2_with fail;go_meet
   case rel=>exact ⟨_,rfl,hg,di (di hT2 0 _) 1 _,(hS2.1.setCell hg _).setCell hg _⟩
  ·have hg:_:=zG w.heap.size;go_wp2_with fail;go_meet
   case rel=>exact ⟨_,rfl,hg,di (di hT2 0 _) 1 _,(hS2.1.setCell hg _).setCell hg _⟩
 case rest =>
  obtain ⟨g,rfl,hg,hT,hb⟩:=hcut;have hpc:=hp.below hb;clear S0 vg lC hSd fK rE;have hfw:(Lit.int .i64 fr).wf=true:=by
   have h1:=K.abG hne;exact E5 (by omega) (by omega)
  have S0:=LQ.mk' hpc.blk hT (dK wc);have vg:∀ w',LQ wc b mb g fr wt p w'->dZ w' b mb p X:=λw' h=>hpc.below h.1;have lC:∀ w' w'',LQ wc b mb g fr wt p w'->af w' w''->LQ wc b mb g fr wt p w'':=λw' w'' h hb'=>LQ.mk' hpc.blk hT (bel h.1 hb');have hSd:∀ w',LQ wc b mb g fr wt p w'->LQ wc b mb g fr wt p w'.drew:=λw' h=>LQ.mk' hpc.blk hT h.1.drew;obtain ⟨A1,n1,c1,ok,hlook,hI1⟩:=(hpc.memo.below (w':=wc.drew) ai.drew).look hfw hwt;go_wp2_with fail;go_region_held3 (λw'=>af wc w'/\w'.cell? ⟨g,0,none⟩=some (.int .i64 fr)/\w'.cell? ⟨g,1,none⟩=some (.int .i64 wt)/\w'.cell? ⟨b,0,none⟩=some (.int .i64 p.x.nd)/\w'.cell? ⟨b,1,none⟩=some (.slice p.x.A p.x.n p.x.c)/\w'.cell? ⟨b,2,none⟩=some (.int .i64 p.x.s.day)/\w'.cell? ⟨b,3,none⟩=some (.int .i64 p.x.s.ax)/\w'.cell? ⟨b,4,none⟩=some (.int .i64 p.x.s.start) /\
  w'.cell? ⟨b,5,none⟩=some (.int .i64 p.x.s.end_)/\w'.cell? ⟨b,6,none⟩=some (.int .i64 p.x.s.aU)/\w'.cell? ⟨b,7,none⟩=some (.slice p.x.s.A p.x.s.n p.x.s.c)/\w'.cell? ⟨b,8,none⟩=some (.slice p.x.B p.x.m p.x.d)/\w'.cell? ⟨b,9,none⟩=some (.slice p.A p.n p.c)/\w'.cell? ⟨b,10,none⟩=some (.map (some mb)))
   (first | assumption | exact S0 | exact hSd _ (by assumption) | exact lC _ _ (by assumption) (by assumption))
   (fail)
  have hnd:=K.abG hne;have hlen:=K.OD (k:=wt) hne hfr;have ZI:p.x.nd.toNat=(K.times p.x.nd p.x.l fr wt).length:=hlen.symm;have HLEN:=zC ZI;clear S0 lC hSd hlook hlen ZI;have hfin:∀ (wf:World) (A:aj) (n:Nat),Ints wf A n (K.times p.x.nd p.x.l fr wt)->∃ ad y,A=some ad/\K.way p.x.nd p.x.l fr wt tn=y/\wf.cell? (ad.add tn)=some (.int .i64 y)/\(tn:Int) < (n:Int):=λwf A n hI=>by
   have htn:tn < n:=by rw [hI.1,<-HLEN.out];omega
   obtain ⟨ad,y,hA,hy,cy⟩:=hI.at_ htn;exact ⟨ad,y,hA,by unfold K.way;rw [G.Gp hy],cy,by omega⟩
  have k0:(0:Int)<=(tn:Int):=by omega
  cases ok
  ·clear hI1;obtain ⟨wd,hwd⟩:=zB wc.drew;have hbd:af wc wd:=by rw [hwd];exact ai.drew
   rw [<-hwd];clear hwd;have hb:=bel hb hbd;have hpc:=hpc.below hbd;have hT:DT wd g fr wt:=au hbd hT;have S0:=LQ.mk' hpc.blk hT (dK wd);have vg:∀ w',LQ wd b mb g fr wt p w'->dZ w' b mb p X:=λw' h=>hpc.below h.1;have lC:∀ w' w'',LQ wd b mb g fr wt p w'->af w' w''->LQ wd b mb g fr wt p w'':=λw' w'' h hb'=>LQ.mk' hpc.blk hT (bel h.1 hb');have hSd:∀ w',LQ wd b mb g fr wt p w'->LQ wd b mb g fr wt p w'.drew:=λw' h=>LQ.mk' hpc.blk hT h.1.drew;go_wp2_with fail;go_region_held3 (λw'=>af wd w'/\w'.cell? ⟨g,0,none⟩=some (.int .i64 fr)/\w'.cell? ⟨g,1,none⟩=some (.int .i64 wt)/\w'.cell? ⟨b,0,none⟩=some (.int .i64 p.x.nd)/\w'.cell? ⟨b,1,none⟩=some (.slice p.x.A p.x.n p.x.c)/\w'.cell? ⟨b,2,none⟩=some (.int .i64 p.x.s.day)/\w'.cell? ⟨b,3,none⟩=some (.int .i64 p.x.s.ax)/\w'.cell? ⟨b,4,none⟩=some (.int .i64 p.x.s.start) /\
  w'.cell? ⟨b,5,none⟩=some (.int .i64 p.x.s.end_)/\w'.cell? ⟨b,6,none⟩=some (.int .i64 p.x.s.aU)/\w'.cell? ⟨b,7,none⟩=some (.slice p.x.s.A p.x.s.n p.x.s.c)/\w'.cell? ⟨b,8,none⟩=some (.slice p.x.B p.x.m p.x.d)/\w'.cell? ⟨b,9,none⟩=some (.slice p.A p.n p.c)/\w'.cell? ⟨b,10,none⟩=some (.map (some mb)))
    (first | assumption | exact S0 | exact hSd _ (by assumption) | exact lC _ _ (by assumption) (by assumption))
    (first
     | (go_at_call 192;refine (amb p.x.nd p.x.A p.x.n p.x.c p.x.l fr wt _ (vg _ ?_).at_.net hpc.at_.b1).mono ?_;assumption;rintro e w5 ⟨⟨A5,n5,c5,rfl,g_,ry⟩,hbn⟩;have hS5:=lC _ _ (by assumption) hbn)
     | fail)
   have vI:=vg _ hS5;have b5:=bel hb hS5.1;have fM:DT w5 g fr wt:=au hS5.1 hT;have PY:=zC hb.size;clear S0 vg lC hSd hbn hS5 hpc hb hbd hT;have Q_:=g_.below (w':=w5.drew) ai.drew;obtain ⟨w6,IA,xu,kK⟩:=(vI.memo.below (w':=w5.drew) ai.drew).store hfw hwt Q_ (λad e=>⟨(ry ad e).2,λhx=>by have h1:=hX _ hx;have h2:wd.heap.size<=ad.block:=(ry ad e).1;have h3:=PY.out;omega⟩) (c:=c5);have hx6:=(vI.memo.below (w':=w5.drew) ai.drew).ext kK;have Ci:=(vI.below (w':=w5.drew) ai.drew).keep hx6 xu;have jh:DT w6 g fr wt:=hx6.cells _ _ _ _ (au (w':=w5.drew) ai.drew fM);have dS:=Q_.ext hx6;have hS:∀ w',yH w' b mb p->DT w' g fr wt->(λw'=>w'.cell? ⟨g,0,none⟩=some (.int .i64 fr)/\w'.cell? ⟨g,1,none⟩=some (.int .i64 wt)/\w'.cell? ⟨b,0,none⟩=some (.int .i64 p.x.nd)/\w'.cell? ⟨b,1,none⟩=some (.slice p.x.A p.x.n p.x.c)/\w'.cell? ⟨b,2,none⟩=some (.int .i64 p.x.s.day)/\w'.cell? ⟨b,3,none⟩=some (.int .i64 p.x.s.ax)/\w'.cell? ⟨b,4,none⟩=some (.int .i64 p.x.s.start) /\
  w'.cell? ⟨b,5,none⟩=some (.int .i64 p.x.s.end_)/\w'.cell? ⟨b,6,none⟩=some (.int .i64 p.x.s.aU)/\w'.cell? ⟨b,7,none⟩=some (.slice p.x.s.A p.x.s.n p.x.s.c)/\w'.cell? ⟨b,8,none⟩=some (.slice p.x.B p.x.m p.x.d)/\w'.cell? ⟨b,9,none⟩=some (.slice p.A p.n p.c)/\w'.cell? ⟨b,10,none⟩=some (.map (some mb))) w':=λw' h1 h2=>⟨ah h2 0 _ rfl,ah h2 1 _ rfl,h1.cells⟩
   have S5:=hS _ vI.blk fM;have Xx:=hS _ (vI.below (w':=w5.drew) ai.drew).blk (au (w':=w5.drew) ai.drew fM);have S6:=hS _ Ci.blk jh;go_wp2_with fail;go_region_held3 (λw'=>w'.cell? ⟨g,0,none⟩=some (.int .i64 fr)/\w'.cell? ⟨g,1,none⟩=some (.int .i64 wt)/\w'.cell? ⟨b,0,none⟩=some (.int .i64 p.x.nd)/\w'.cell? ⟨b,1,none⟩=some (.slice p.x.A p.x.n p.x.c)/\w'.cell? ⟨b,2,none⟩=some (.int .i64 p.x.s.day)/\w'.cell? ⟨b,3,none⟩=some (.int .i64 p.x.s.ax)/\w'.cell? ⟨b,4,none⟩=some (.int .i64 p.x.s.start) /\
  w'.cell? ⟨b,5,none⟩=some (.int .i64 p.x.s.end_)/\w'.cell? ⟨b,6,none⟩=some (.int .i64 p.x.s.aU)/\w'.cell? ⟨b,7,none⟩=some (.slice p.x.s.A p.x.s.n p.x.s.c)/\w'.cell? ⟨b,8,none⟩=some (.slice p.x.B p.x.m p.x.d)/\w'.cell? ⟨b,9,none⟩=some (.slice p.A p.n p.c)/\w'.cell? ⟨b,10,none⟩=some (.map (some mb)))
    (first | assumption | exact S5 | exact Xx | exact S6)
    (fail)
   have hW:lJ w w6 b mb p X:=⟨grow_step (jg (qy w _) (bel b5 (w2:=w5.drew) ai.drew)) kK (.inl rfl),Ci⟩;obtain ⟨ad,y,rfl,hy,cy,k1⟩:=hfin w6 A5 n5 dS;have HY:=zC hy;clear hy hfin g_ Q_ dS S5 Xx S6 hS IA hx6 kK;go_wp2_with fail;go_quiet (fail);go_wp2_with fail;go_ret2
   rw [HY.out];exact ⟨rfl,hW.below (below_drewN ai _)⟩
  ·have hI:=hI1 rfl;clear hI1;obtain ⟨wd,hwd⟩:=zB wc.drew;have hbd:af wc wd:=by rw [hwd];exact ai.drew
   rw [<-hwd] at hI ⊢;clear hwd;obtain ⟨ad,y,rfl,hy,cy,k1⟩:=hfin wd A1 n1 hI;have HY:=zC hy;have hW:=OO hp (bel hb hbd);clear hy hfin hI vg hT;go_wp2_with fail;go_quiet (fail);go_wp2_with fail;go_ret2
   rw [HY.out];exact ⟨rfl,hW.below (below_drewN ai _)⟩
theorem amI:∀ k:Fin 8,IntKind.i64.wrap ((2:Int) ^ k.val)=2 ^ k.val:=by decide +kernel
theorem sG {k:Nat} (hk:k < 8):IntKind.i64.wrap ((2:Int) ^ k)=2 ^ k:=amI ⟨k,hk⟩
structure Elem (p:PS) (i j:Nat) (q:Q):Prop where
 set:p.l[i]? = some (j:Int)
 req:p.x.r[j]? = some q
theorem Elem.lt {w:World} {b mb:Nat} {p:PS} {i j:Nat} {q:Q} {X:Nat->Prop} (h:Elem p i j q) (hp:dZ w b mb p X):i < p.n/\j < p.x.m:=by
 have h1:=(zE.1 h.set).1;have h2:=(zE.1 h.req).1;exact ⟨by rw [hp.set.1];exact h1,by rw [hp.at_.bf.1];exact h2⟩
theorem Elem.cells {w:World} {b mb:Nat} {p:PS} {i j:Nat} {q:Q} {X:Nat->Prop} (h:Elem p i j q) (hp:dZ w b mb p X) :
  ∃ bP ad,p.A=some bP/\p.x.B=some ad/\dA w q.A q.n q.l/\w.cell? (bP.add i)=some (.int .i64 (j:Int))/\w.cell? (ad.add (j * 7))=some (.int .i64 q.node) /\
   w.cell? ⟨(ad.add (j * 7)).block,(ad.add (j * 7)).off + 1,none⟩=some (.int .i64 q.room) /\
   w.cell? ⟨(ad.add (j * 7)).block,(ad.add (j * 7)).off + 2,none⟩=some (.int .i64 q.a_) /\
   w.cell? ⟨(ad.add (j * 7)).block,(ad.add (j * 7)).off + 3,none⟩=some (.int .i64 q.service) /\
   w.cell? ⟨(ad.add (j * 7)).block,(ad.add (j * 7)).off + 4,none⟩=some (.int .i64 q.aI) /\
   w.cell? ⟨(ad.add (j * 7)).block,(ad.add (j * 7)).off + 5,none⟩=some (.int .i64 q.aP) /\
   w.cell? ⟨(ad.add (j * 7)).block,(ad.add (j * 7)).off + 6,none⟩=some (.slice q.A q.n q.c):=by
 obtain ⟨hi,hj⟩:=h.lt hp;obtain ⟨bP,y,hA,hy,cy⟩:=hp.set.at_ hi;rw [h.set] at hy;injection hy with hy;subst hy;obtain ⟨ad,q',hB,hgq,hwq,e0,e1,e2,e3,e4,e5,e6⟩:=hp.at_.bf.at_ hj;rw [h.req] at hgq;injection hgq with hgq;subst hgq;exact ⟨bP,ad,hA,hB,hwq,cy,e0,e1,e2,e3,e4,e5,e6⟩
theorem I8 (b mb:Nat) (p:PS) (i j:Nat) (q:Q) (w:World) {X:Nat->Prop} (hp:dZ w b mb p X) (he:Elem p i j q) :
  ay 142 #[.pointer (some ⟨b,0,none⟩),.int .i64 i] w (og w q.node):=by
 obtain ⟨c0,c1,c2,c3,c4,c5,c6,c7,c8,c9,c10⟩:=hp.blk.cells;obtain ⟨hi,hj⟩:=he.lt hp;obtain ⟨bP,ad,hA,hB,-,y,e0,-⟩:=he.cells hp;obtain ⟨k0,k1⟩:=zJ (a:=i) (b:=p.n) (by omega);obtain ⟨k2,k3⟩:=zJ (a:=j) (b:=p.x.m) (by omega);rw [hA] at c9;rw [hB] at c8;clear hA hB;go_enter Tryz.func142,Tryz.ntmps142;go_wp2_with fail;go_quiet (fail);go_wp2_with fail;go_ret;exact ⟨rfl,below_drewN ai _⟩
def LE (w:World) (b mb:Nat) (p:PS) (i j:Nat) (q:Q) (bP ad:Addr) (w':World):Prop:=af w w'/\aJ w' b 0 p.x.nd/\bT w' b 1 p.x.A p.x.n p.x.c/\aJ w' b 2 p.x.s.day/\aJ w' b 3 p.x.s.ax/\aJ w' b 4 p.x.s.start /\
  aJ w' b 5 p.x.s.end_/\aJ w' b 6 p.x.s.aU/\bT w' b 7 p.x.s.A p.x.s.n p.x.s.c/\bT w' b 8 (some ad) p.x.m p.x.d/\bT w' b 9 (some bP) p.n p.c/\Gm w' b 10 (.map (some mb))/\w'.cell? (bP.add i)=some (.int .i64 (j:Int))/\w'.cell? (ad.add (j * 7))=some (.int .i64 q.node) /\
   aJ w' ((ad.add (j * 7)).block) ((ad.add (j * 7)).off + 1) q.room /\
   aJ w' ((ad.add (j * 7)).block) ((ad.add (j * 7)).off + 2) q.a_ /\
   aJ w' ((ad.add (j * 7)).block) ((ad.add (j * 7)).off + 3) q.service /\
   aJ w' ((ad.add (j * 7)).block) ((ad.add (j * 7)).off + 4) q.aI /\
   aJ w' ((ad.add (j * 7)).block) ((ad.add (j * 7)).off + 5) q.aP /\
   w'.cell? ⟨(ad.add (j * 7)).block,(ad.add (j * 7)).off + 6,none⟩=some (.slice q.A q.n q.c)
theorem LE.mk' {w:World} {b mb:Nat} {p:PS} {i j:Nat} {q:Q} {bP ad:Addr} {X:Nat->Prop} (hp:dZ w b mb p X) (he:Elem p i j q) (hA:p.A=some bP) (hB:p.x.B=some ad) {w':World} (hb:af w w'):LE w b mb p i j q bP ad w':=by
 have h:=hp.below hb;obtain ⟨XB,ad',hA',hB',-,hc⟩:=he.cells h;rw [hA] at hA';injection hA' with hA';subst hA';rw [hB] at hB';injection hB' with hB';subst hB';obtain ⟨d0,d1,d2,d3,d4,d5,d6,d7,d8,d9,d10⟩:=h.blk.cells;rw [hA] at d9;rw [hB] at d8;exact ⟨hb,d0,d1,d2,d3,d4,d5,d6,d7,d8,d9,d10,hc⟩
namespace K
def begins (s:S) (r:List Q) (q:Q) (all:ag) (arr:Int):Int × Bool :=
 if s.day < q.aI\/q.aP < s.day\/s.end_ < arr\/T.fits s r all=false then (0,false)
 else ((H.fit q.l arr q.service).1,(H.fit q.l arr q.service).2 && decide ((H.fit q.l arr q.service).1 + q.service<=s.end_))
end K
def Jw (p:PS) (q:Q) (all:ag) (arr:Int) (w w':World) (e:Ending):Prop:=e=.returned (.tuple #[.int .i64 (K.begins p.x.s p.x.r q all arr).1,.bool (K.begins p.x.s p.x.r q all arr).2])/\af w w'
theorem DW {p:PS} {q:Q} {all:ag} {arr t:Int} {ok:Bool} {w w':World} (h:K.begins p.x.s p.x.r q all arr=(t,ok)) (hb:af w w'):Jw p q all arr w w' (.returned (.tuple #[.int .i64 t,.bool ok])):=⟨by rw [h],hb⟩
theorem acj (b mb:Nat) (p:PS) (m i j:Nat) (q:Q) (arr:Int) (w:World) {X:Nat->Prop} (hp:dZ w b mb p X) (he:Elem p i j q) (hm:m < 64) (Ce:m.testBit i=false) (hm2:m + 2 ^ i < 256) (hse:0<=q.service/\q.service<=1000000) :
  ay 201 #[.pointer (some ⟨b,0,none⟩),.int .i64 m,.int .i64 i,.int .i64 arr] w λe w'=>Jw p q (K.part p.l (m + 2 ^ i)) arr w w' e:=by
 obtain ⟨hi,hj⟩:=he.lt hp;obtain ⟨hne,hck,hdp,hrq,dP,-⟩:=K.jl hp.ok;have hpl:(K.part p.l (m + 2 ^ i)).length<=6:=aN (K.qM _ _) dP;have nP:p.n<=6:=by rw [hp.set.1];exact dP
 obtain ⟨bP,ad,hA,hB,hwq,y,e0,e1,e2,e3,e4,e5,e6⟩:=he.cells hp;have fU:=hp.at_.b4 q (zD he.req);obtain ⟨c2,c3,c4⟩:p.x.s.n<=1000000000/\p.x.m<=1000000000/\∀ q ∈ p.x.r,q.n<=1000000000:=⟨hp.at_.b2,hp.at_.b3,hp.at_.b4⟩;obtain ⟨k0,k1⟩:=zJ (a:=i) (b:=p.n) (by omega);obtain ⟨k2,k3⟩:=zJ (a:=j) (b:=p.x.m) (by omega);clear hne hck hdp hrq dP;have S0:=LE.mk' hp he hA hB (dK w);have hSd:∀ w',LE w b mb p i j q bP ad w'->LE w b mb p i j q bP ad w'.drew:=λw' h=>LE.mk' hp he hA hB h.1.drew;have fK:∀ w' o',LE w b mb p i j q bP ad w'->LE w b mb p i j q bP ad (w'.alloc o'):=λw' o' h=>LE.mk' hp he hA hB (bel h.1 (ai.alloc (zG _) _));have rE:∀ (w':World) (g k:Nat) (v:Value),LE w b mb p i j q bP ad w'->w.heap.size<=g->LE w b mb p i j q bP ad (w'.setCell ⟨g,k,none⟩ v):=λw' g k v h hg=>LE.mk' hp he hA hB (h.1.setCell hg _);have HA:=zC hA;have HB:=zC hB;clear hA hB y e0 e1 e2 e3 e4 e5 e6;go_enter Tryz.func201,Tryz.ntmps201;go_wp2_with fail;go_cut [10] from 13 to 25 (λv10 wc=>∃ g,v10=.pointer (some ⟨g,0,none⟩)/\w.heap.size<=g/\dV wc g q/\af w wc)
 case first =>
  go_region_held3 (λw'=>af w w'/\w'.cell? ⟨b,0,none⟩=some (.int .i64 p.x.nd)/\w'.cell? ⟨b,1,none⟩=some (.slice p.x.A p.x.n p.x.c)/\w'.cell? ⟨b,2,none⟩=some (.int .i64 p.x.s.day)/\w'.cell? ⟨b,3,none⟩=some (.int .i64 p.x.s.ax)/\w'.cell? ⟨b,4,none⟩=some (.int .i64 p.x.s.start) /\
  w'.cell? ⟨b,5,none⟩=some (.int .i64 p.x.s.end_)/\w'.cell? ⟨b,6,none⟩=some (.int .i64 p.x.s.aU)/\w'.cell? ⟨b,7,none⟩=some (.slice p.x.s.A p.x.s.n p.x.s.c)/\w'.cell? ⟨b,8,none⟩=some (.slice (some ad) p.x.m p.x.d)/\w'.cell? ⟨b,9,none⟩=some (.slice (some bP) p.n p.c)/\w'.cell? ⟨b,10,none⟩=some (.map (some mb))/\w'.cell? (bP.add i)=some (.int .i64 (j:Int))/\w'.cell? (ad.add (j * 7))=some (.int .i64 q.node) /\
   w'.cell? ⟨(ad.add (j * 7)).block,(ad.add (j * 7)).off + 1,none⟩=some (.int .i64 q.room) /\
   w'.cell? ⟨(ad.add (j * 7)).block,(ad.add (j * 7)).off + 2,none⟩=some (.int .i64 q.a_) /\
   w'.cell? ⟨(ad.add (j * 7)).block,(ad.add (j * 7)).off + 3,none⟩=some (.int .i64 q.service) /\
   w'.cell? ⟨(ad.add (j * 7)).block,(ad.add (j * 7)).off + 4,none⟩=some (.int .i64 q.aI) /\
   w'.cell? ⟨(ad.add (j * 7)).block,(ad.add (j * 7)).off + 5,none⟩=some (.int .i64 q.aP) /\
   w'.cell? ⟨(ad.add (j * 7)).block,(ad.add (j * 7)).off + 6,none⟩=some (.slice q.A q.n q.c))
   (first | assumption | exact S0 | exact hSd _ S0 | exact fK _ _ (by assumption) | exact fK _ _ S0 | exact hSd _ (fK _ _ S0) | exact fK _ _ (hSd _ S0))
   (fail)
  go_wp2_with fail;go_meet
  case rel=>exact ⟨_,rfl,zG _,aA _ _,bel (w1:=w.drew) ai.drew (ai.alloc (zG _) _)⟩
 case rest =>
  obtain ⟨g,rfl,hg,hQ,hb⟩:=hcut;have hpc:=hp.below hb;have hwq:=hwq.below hb;clear S0 hSd fK rE;obtain ⟨e0,e1,e2,e3,e4,e5,e6⟩:=hQ.cells;obtain ⟨d0,d1,d2,d3,d4,d5,d6,d7,d8,d9,d10⟩:=hpc.blk.cells;rw [HB.out] at d8;rw [HA.out] at d9;cases x1:decide (p.x.s.day < q.aI);rotate_left
  ·have HX:=zC (show K.begins p.x.s p.x.r q (K.part p.l (m + 2 ^ i)) arr=(0,false) by unfold K.begins;rw [if_pos (.inl (iH x1))]);go_wp2_with fail;go_quiet (fail);go_wp2_with fail;go_ret2
   exact DW HX.out (below_drewN hb _)
  cases x2:decide (q.aP < p.x.s.day);rotate_left
  ·have HX:=zC (show K.begins p.x.s p.x.r q (K.part p.l (m + 2 ^ i)) arr=(0,false) by unfold K.begins;rw [if_pos (.inr (.inl (iH x2)))]);go_wp2_with fail;go_quiet (fail);go_wp2_with fail;go_ret2
   exact DW HX.out (below_drewN hb _)
  cases x3:decide (p.x.s.end_ < arr);rotate_left
  ·have HX:=zC (show K.begins p.x.s p.x.r q (K.part p.l (m + 2 ^ i)) arr=(0,false) by unfold K.begins;rw [if_pos (.inr (.inr (.inl (iH x3))))]);go_wp2_with fail;go_quiet (fail);go_wp2_with fail;go_ret2
   exact DW HX.out (below_drewN hb _)
  have HD:=zC (show ¬ p.x.s.day < q.aI/\¬ q.aP < p.x.s.day/\¬ p.x.s.end_ < arr from ⟨of_decide_eq_false x1,of_decide_eq_false x2,of_decide_eq_false x3⟩);obtain ⟨mm,hmm⟩:=zB (m + 2 ^ i);have hor:bits BinOp.or IntKind.i64 (m:Int) (IntKind.i64.wrap (2 ^ i))=(mm:Int):=by rw [sG (by omega),KG hm (by omega) Ce,hmm]
  rw [<-hmm] at hpl hm2;have WA:=zC hmm;clear hmm d0 d1 d2 d3 d4 d5 d6 d7 d8 d9 d10;have hmk:∀ w',af wc w'->(λw'=>af wc w'/\w'.cell? ⟨g,0,none⟩=some (.int .i64 q.node)/\w'.cell? ⟨g,1,none⟩=some (.int .i64 q.room)/\w'.cell? ⟨g,2,none⟩=some (.int .i64 q.a_)/\w'.cell? ⟨g,3,none⟩=some (.int .i64 q.service)/\w'.cell? ⟨g,4,none⟩=some (.int .i64 q.aI)/\w'.cell? ⟨g,5,none⟩=some (.int .i64 q.aP)/\w'.cell? ⟨g,6,none⟩=some (.slice q.A q.n q.c)/\w'.cell? ⟨b,0,none⟩=some (.int .i64 p.x.nd)/\w'.cell? ⟨b,1,none⟩=some (.slice p.x.A p.x.n p.x.c)/\w'.cell? ⟨b,2,none⟩=some (.int .i64 p.x.s.day)/\w'.cell? ⟨b,3,none⟩=some (.int .i64 p.x.s.ax)/\w'.cell? ⟨b,4,none⟩=some (.int .i64 p.x.s.start) /\
  w'.cell? ⟨b,5,none⟩=some (.int .i64 p.x.s.end_)/\w'.cell? ⟨b,6,none⟩=some (.int .i64 p.x.s.aU)/\w'.cell? ⟨b,7,none⟩=some (.slice p.x.s.A p.x.s.n p.x.s.c)/\w'.cell? ⟨b,8,none⟩=some (.slice (some ad) p.x.m p.x.d)/\w'.cell? ⟨b,9,none⟩=some (.slice (some bP) p.n p.c)/\w'.cell? ⟨b,10,none⟩=some (.map (some mb))) w':=λw' h=>by
   have h2:=(hpc.below h).blk.cells;obtain ⟨d0,d1,d2,d3,d4,d5,d6,d7,d8,d9,d10⟩:=h2;rw [HB.out] at d8;rw [HA.out] at d9;exact ⟨h,(hQ.below h).cells.1,(hQ.below h).cells.2.1,(hQ.below h).cells.2.2.1,(hQ.below h).cells.2.2.2.1,(hQ.below h).cells.2.2.2.2.1,(hQ.below h).cells.2.2.2.2.2.1,(hQ.below h).cells.2.2.2.2.2.2,d0,d1,d2,d3,d4,d5,d6,d7,d8,d9,d10⟩
  have S0:=hmk _ ai;have aQ:=hmk _ (dK wc).drew;clear e0 e1 e2 e3 e4 e5 e6;go_wp2_with fail;go_region_held3 (λw'=>af wc w'/\w'.cell? ⟨g,0,none⟩=some (.int .i64 q.node)/\w'.cell? ⟨g,1,none⟩=some (.int .i64 q.room)/\w'.cell? ⟨g,2,none⟩=some (.int .i64 q.a_)/\w'.cell? ⟨g,3,none⟩=some (.int .i64 q.service)/\w'.cell? ⟨g,4,none⟩=some (.int .i64 q.aI)/\w'.cell? ⟨g,5,none⟩=some (.int .i64 q.aP)/\w'.cell? ⟨g,6,none⟩=some (.slice q.A q.n q.c)/\w'.cell? ⟨b,0,none⟩=some (.int .i64 p.x.nd)/\w'.cell? ⟨b,1,none⟩=some (.slice p.x.A p.x.n p.x.c)/\w'.cell? ⟨b,2,none⟩=some (.int .i64 p.x.s.day)/\w'.cell? ⟨b,3,none⟩=some (.int .i64 p.x.s.ax)/\w'.cell? ⟨b,4,none⟩=some (.int .i64 p.x.s.start) /\
  w'.cell? ⟨b,5,none⟩=some (.int .i64 p.x.s.end_)/\w'.cell? ⟨b,6,none⟩=some (.int .i64 p.x.s.aU)/\w'.cell? ⟨b,7,none⟩=some (.slice p.x.s.A p.x.s.n p.x.s.c)/\w'.cell? ⟨b,8,none⟩=some (.slice (some ad) p.x.m p.x.d)/\w'.cell? ⟨b,9,none⟩=some (.slice (some bP) p.n p.c)/\w'.cell? ⟨b,10,none⟩=some (.map (some mb)))
   (first | assumption | exact S0 | exact aQ)
   (first
    | (go_at_call 191;refine (acg b mb p mm wc.drew (hpc.below ai.drew) hm2).mono ?_;rintro e w3 ⟨⟨A9,n9,c9,rfl,hI⟩,hbn⟩;have hb3:=bel (w1:=wc.drew) (dK wc).drew hbn;have S3:=hmk _ hb3)
    | (go_at_call 121;refine (fits_any p.x.s (some ad) p.x.m p.x.d p.x.r A9 n9 c9 (K.part p.l mm) w3 (hpc.below hb3).at_.gW c2 (by rw [<-HB.out];exact (hpc.below hb3).at_.bf) c3 c4 hI (by rw [hI.1];omega)).mono ?_;rintro e w4 ⟨rfl,jM⟩;have hb4:=bel hb3 jM;have S4:=hmk _ hb4)
    | fail)
  have hb:=bel hb hb4;have hpc:=hpc.below hb4;have hQ:=hQ.below hb4;have hwq:=hwq.below hb4;clear S0 aQ S3 S4 hmk hb3 hb4 hbn jM hI x1 x2 x3;cases hf:T.fits p.x.s p.x.r (K.part p.l mm)
  ·have HX:=zC (show K.begins p.x.s p.x.r q (K.part p.l (m + 2 ^ i)) arr=(0,false) by unfold K.begins;rw [<-WA.out,if_pos (.inr (.inr (.inr hf)))]);clear hf;go_wp2_with fail;go_ret2
   exact DW HX.out hb
  have HF:=zC (show ¬ (p.x.s.day < q.aI\/q.aP < p.x.s.day\/p.x.s.end_ < arr\/T.fits p.x.s p.x.r (K.part p.l mm)=false) by
   obtain ⟨h1,h2,h3⟩:=HD.out;rw [hf];simp [h1,h2,h3])
  clear hf;obtain ⟨e0,e1,e2,e3,e4,e5,e6⟩:=hQ.cells;go_wp2_with fail;refine (YO q.A q.n q.c q.l arr q.service _ hwq fU).mono ?_;rintro e w5 ⟨rfl,b5⟩;have hb:=bel hb b5;have hpc:=hpc.below b5;have hQ:=hQ.below b5;clear b5 e0 e1 e2 e3 e4 e5 e6 hwq;have Ar:=zC (λh=>H.oZ (l:=q.l) (t:=arr) (s:=q.service) h);obtain ⟨fb,hfb⟩:=zB ((H.fit q.l arr q.service).1);obtain ⟨ok,hok⟩:=zB ((H.fit q.l arr q.service).2);rw [<-hfb,<-hok];have HX:=zC (show K.begins p.x.s p.x.r q (K.part p.l (m + 2 ^ i)) arr=(fb,ok && decide (fb + q.service<=p.x.s.end_)) by unfold K.begins;rw [<-WA.out,if_neg HF.out,<-hfb,<-hok]);have sK:=zC hfb;have aY:=zC hok;clear hfb hok;obtain ⟨e0,e1,e2,e3,e4,e5,e6⟩:=hQ.cells;obtain ⟨d0,d1,d2,d3,d4,d5,d6,d7,d8,d9,d10⟩:=hpc.blk.cells;cases ok
  ·go_wp2_with fail;go_quiet (fail);go_wp2_with fail;go_ret2
   exact DW HX.out (below_drewN hb _)
  ·obtain ⟨-,-,-,hf1,hf2⟩:=Ar.out (by rw [<-aY.out]);obtain ⟨-,g2,-⟩:=H.oZ (l:=q.l) (t:=arr) (s:=q.service) (by rw [<-aY.out]);rw [<-sK.out] at hf1 hf2;have hwrap:IntKind.i64.wrap (fb + q.service)=fb + q.service:=dh _ (by omega);go_wp2_with fail;go_quiet (fail);go_wp2_with fail;go_ret2
   exact DW HX.out (below_drewN hb _)
namespace K
def gm (y first t:Int):Int:=if y ≠ -1/\t ≠ -1/\(first=-1\/t + y < first) then t + y else first
theorem UY {y first t:Int} (h:y=-1):gm y first t=first:=by unfold gm;rw [if_neg (by simp [h])]
theorem EP {y first t:Int} (h:t=-1):gm y first t=first:=by unfold gm;rw [if_neg (by simp [h])]
theorem ajf {y first t:Int} (h:¬ first=-1) (h2:¬ t + y < first):gm y first t=first:=by unfold gm;rw [if_neg (by simp [h,h2])]
theorem UZ {y first t:Int} (h1:¬ y=-1) (h2:¬ t=-1) (h:first=-1\/t + y < first):gm y first t=t + y:=by unfold gm;rw [if_pos ⟨h1,h2,h⟩]
end K
structure jD (w w':World) (mb g:Nat):Prop where
 os:w'.os=w.os
 tape:w'.tape=w.tape
 output:w'.output=w.output
 size:w.heap.size<=w'.heap.size
 block:∀ k,k < w.heap.size->k ≠ mb->k ≠ g->w'.heap[k]? = w.heap[k]?
theorem jD.of {w w':World} {mb g:Nat} (h:w.grownBy w' (some mb)):jD w w' mb g:=⟨h.os,h.tape,h.output,h.size,λk hk hne _=>h.block k hk (λe=>hne (by injection e))⟩
theorem jD.set {w w':World} {mb g:Nat} (h:jD w w' mb g) (i:Nat) (v:Value):jD w (w'.setCell ⟨g,i,none⟩ v) mb g :=
 ⟨h.os,h.tape,h.output,by rw [World.size_setCell];exact h.size,λk hk hne hg=>(iG w' _ _ k (λe=>hg e)).trans (h.block k hk hne hg)⟩
def JX (w w':World) (mb g10:Nat) (p:PS) (X:Nat->Prop) (first:Int) (e:Ending):Prop :=
 e=.returned (.tuple #[])/\jD w w' mb g10/\fZ w' mb p.x.nd p.x.l X/\w'.heap[g10]? = some (.cells #[.int .i64 first] 3 (0,0))
theorem note_any (b mb:Nat) (p:PS) (i j:Nat) (q:Q) (m:Nat) (fr t first:Int) (g4 g7 g9 g10:Nat) (w:World) {X:Nat->Prop} (hp:dZ w b mb p X) (hX:∀ g,X g->g < w.heap.size)
  (h4:w.heap[g4]? = some (.cells #[.pointer (some ⟨b,0,none⟩)] 162 (0,0))) (h7:w.heap[g7]? = some (.cells #[.int .i64 (i:Int)] 3 (0,0))) (h9:w.heap[g9]? = some (.cells #[.int .i64 (m:Int)] 3 (0,0))) (h10:w.heap[g10]? = some (.cells #[.int .i64 first] 3 (0,0))) (hXg:X g10)
  (he:Elem p i j q) (hm:m < 256) (hfr:0<=fr/\fr < p.x.nd) (hto:0<=q.node/\q.node < p.x.nd) (hwt:(Lit.int .i64 (T.weight p.x.s p.x.r (K.part p.l m))).wf=true) (ht:-1<=t/\t<=1000000) :
  ay 204 #[.int .i64 fr,.int .i64 t,.pointer (some ⟨g4,0,none⟩),.pointer (some ⟨g7,0,none⟩),.pointer (some ⟨g9,0,none⟩),.pointer (some ⟨g10,0,none⟩)] w λe w'=>JX w w' mb g10 p X (K.gm (K.way p.x.nd p.x.l fr (T.weight p.x.s p.x.r (K.part p.l m)) q.node) first t) e:=by
 obtain ⟨tn,htn⟩:∃ tn:Nat,q.node=(tn:Int):=⟨q.node.toNat,by omega⟩;have nS:=hp.below (w':=w.drew) ai.drew;have CN:=I8 b mb p i j q w.drew nS he;rw [htn] at CN ⊢;have ah3:(tn:Int) < p.x.nd:=by omega
 have S0:w.cell? ⟨g4,0,none⟩=some (.pointer (some ⟨b,0,none⟩))/\w.cell? ⟨g7,0,none⟩=some (.int .i64 (i:Int))/\w.cell? ⟨g9,0,none⟩=some (.int .i64 (m:Int)):=⟨ah h4 0 _ rfl,ah h7 0 _ rfl,ah h9 0 _ rfl⟩;have hS:∀ w',Ext w w'->w'.cell? ⟨g4,0,none⟩=some (.pointer (some ⟨b,0,none⟩))/\w'.cell? ⟨g7,0,none⟩=some (.int .i64 (i:Int))/\w'.cell? ⟨g9,0,none⟩=some (.int .i64 (m:Int)):=λw' h=>⟨h.cell S0.1,h.cell S0.2.1,h.cell S0.2.2⟩;have aQ:=hS w.drew (Ext.below (dK w).drew);go_enter Tryz.func204,Tryz.ntmps204;go_wp2_with fail
 go_region_held3 (λw'=>w'.cell? ⟨g4,0,none⟩=some (.pointer (some ⟨b,0,none⟩))/\w'.cell? ⟨g7,0,none⟩=some (.int .i64 (i:Int))/\w'.cell? ⟨g9,0,none⟩=some (.int .i64 (m:Int)))
  (first | assumption | exact S0 | exact aQ)
  (first
   | (go_at_call 142;refine CN.mono ?_;rintro e w1 ⟨rfl,b1⟩;have hd1:af w w1:=bel (w1:=w.drew) ai.drew b1;have hp1:=hp.below hd1;have S1:=hS w1 (Ext.below hd1))
   | (go_at_call 141;refine (ael b mb p fr tn m w1 hp1 (λg hg=>dO (hX g hg) hd1.size) hm hfr ah3 hwt).mono ?_;rintro e w2 ⟨rfl,hW⟩;have hx2:=(Ext.below hd1).trans (hW.ext hp1);have S2:=hS w2 hx2)
   | fail)
 have hyb:=K.jY p.x.nd p.x.l fr (T.weight p.x.s p.x.r (K.part p.l m)) tn;obtain ⟨y,hy⟩:=zB (K.way p.x.nd p.x.l fr (T.weight p.x.s p.x.r (K.part p.l m)) tn);rw [<-hy] at hyb ⊢;have HY:=zC hy;obtain ⟨hy0,hy1⟩:=hyb;have GG:=hx2.cells _ _ _ _ h10;have QZ:jD w w2 mb g10:=jD.of (jg (qy w _) hd1 |> λh=>grow_step h hW.1 (.inl rfl));have Rw:=hW.2.memo;have hne:g10 ≠ mb:=λe=>by
  obtain ⟨es,clock,hmb,-⟩:=Rw;rw [<-e,GG] at hmb;cases hmb
 have f10:=ah GG 0 _ rfl;have z10:=b_ GG 0;have hwrap:IntKind.i64.wrap (t + y)=t + y:=dh _ (by omega);have hset:JX w (w2.setCell ⟨g10,0,none⟩ (.int .i64 (t + y))) mb g10 p X (t + y) (.returned (.tuple #[])):=⟨rfl,QZ.set _ _,Rw.set hXg hne 0 _,di GG 0 _⟩;have hkeep:JX w w2 mb g10 p X first (.returned (.tuple #[])):=⟨rfl,QZ,Rw,GG⟩;have DI:=zC hset;have Ph:=zC hkeep;clear hset hkeep hy S0 aQ S1 S2 hS CN QZ hne;cases c1:(y == -1);rotate_left
 ·have hb1:(y != -1)=false:=by simp [bne,c1]
  have HX:=zC (K.UY (first:=first) (t:=t) (show y=-1 by simpa using c1));clear c1;go_wp2_with fail;refine bodyPost_end (results_none rfl _ _ _) rfl ?_;rw [<-HY.out,HX.out];exact Ph.out
 have hb1:(y != -1)=true:=by simp [bne,c1]
 have hn1:¬ y=-1:=by simpa using c1
 cases c2:(t == -1);rotate_left
 ·have hb2:(t != -1)=false:=by simp [bne,c2]
  have HX:=zC (K.EP (first:=first) (y:=y) (show t=-1 by simpa using c2));clear c2;go_wp2_with fail;refine bodyPost_end (results_none rfl _ _ _) rfl ?_;rw [<-HY.out,HX.out];exact Ph.out
 have hb2:(t != -1)=true:=by simp [bne,c2]
 have hn2:¬ t=-1:=by simpa using c2
 cases c3:(first == -1)
 ·have hn3:¬ first=-1:=by simpa using c3
  cases c4:decide (t + y < first)
  ·have HX:=zC (K.ajf (y:=y) (t:=t) hn3 (of_decide_eq_false c4));clear c1 c2 hn1 hn2 hn3;go_wp2_with fail;refine bodyPost_end (results_none rfl _ _ _) rfl ?_;rw [<-HY.out,HX.out];exact Ph.out
  ·have HX:=zC (K.UZ (first:=first) hn1 hn2 (.inr (iH c4)));clear c1 c2 hn1 hn2 hn3;go_wp2_with fail;refine bodyPost_end (results_none rfl _ _ _) rfl ?_;rw [<-HY.out,HX.out];exact DI.out
 ·have HX:=zC (K.UZ (first:=first) hn1 hn2 (.inl (show first=-1 by simpa using c3)));cases c4:decide (t + y < first)
  all_goals
   clear c1 c2 hn1 hn2;go_wp2_with fail;refine bodyPost_end (results_none rfl _ _ _) rfl ?_;rw [<-HY.out,HX.out];exact DI.out
end Go.Proofs.YtippdjmpkafifaaGreat
