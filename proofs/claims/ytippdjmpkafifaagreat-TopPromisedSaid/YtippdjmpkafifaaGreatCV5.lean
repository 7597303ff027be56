import Derived.Deep.Slices
import Derived.Deep.Fields
import Derived.ChangeSame
import Derived.ProofKit
import Derived.OpenShut
import Derived.Test.YtippdjmpkafifaaGreatCV1
import Derived.Test.YtippdjmpkafifaaGreatCV4
import Derived.BigRegion
import Derived.DeepKeys5
import Derived.Maps.OwnSet
import Derived.Deep.RegionHeld3
namespace Go.Proofs.YtippdjmpkafifaaGreat
open Go.RowKit
def Als (w:World):List Obj→World
 | []=>w
 | o :: l=>Als (w.alloc o) l
theorem Als.size:∀ (l:List Obj) (w:World),(Als w l).heap.size=w.heap.size + l.length:=by
 intro l
 induction l with
 | nil=>intro w;rfl
 | cons o l ih=>intro w;show (Als (w.alloc o) l).heap.size=_;rw [ih,World.size_alloc,List.length_cons];omega
theorem Als.below:∀ (l:List Obj) (w:World),Below w.heap.size w (Als w l):=by
 intro l
 induction l with
 | nil=>intro w;exact Below.refl _ _
 | cons o l ih=>intro w;exact bel ((Below.refl _ _).alloc (Nat.le_refl _) o) (ih _)
theorem Als.get:∀ (l:List Obj) (w:World) (i:Nat) (o:Obj),l[i]? = some o→(Als w l).heap[w.heap.size + i]? = some o:=by
 intro l
 induction l with
 | nil=>intro w i o h;simp at h
 | cons o' l ih =>
  intro w i o h
  show (Als (w.alloc o') l).heap[_]? = _
  cases i with
  | zero =>
   simp at h;subst h
   exact blk_below (Als.below l _) (heap_alloc_new w o')
  | succ i =>
   have:=ih (w.alloc o') i o (by simpa using h)
   rw [World.size_alloc] at this
   rw [←this];congr 1;omega
def Sets (w:World):List (Addr × Value)→World
 | []=>w
 | p :: l=>Sets (w.setCell p.1 p.2) l
theorem Sets.other:∀ (l:List (Addr × Value)) (w:World) (g:Nat),(∀ p ∈ l,p.1.block ≠ g)→(Sets w l).heap[g]? = w.heap[g]?:=by
 intro l
 induction l with
 | nil=>intro w g _;rfl
 | cons p l ih =>
  intro w g h
  show (Sets (w.setCell p.1 p.2) l).heap[g]? = _
  rw [ih _ g (fun q hq=>h q (List.mem_cons_of_mem _ hq))]
  exact Below.heap_setCell w p.1 p.2 g (Ne.symm (h p List.mem_cons_self))
theorem Sets.below {B:Nat}:∀ (l:List (Addr × Value)) (w w':World),Below B w w'→(∀ p ∈ l,B≤p.1.block)→Below B w (Sets w' l):=by
 intro l
 induction l with
 | nil=>intro w w' hb _;exact hb
 | cons p l ih=>intro w w' hb h;exact ih w _ (hb.setCell (h p List.mem_cons_self) _) (fun q hq=>h q (List.mem_cons_of_mem _ hq))
theorem results_cells2_tmp {fn:Func} {p q u:Tmp} {ty ty2:TypeId} (h:fn.results=#[.cell p ty,.cell q ty2,.tmp u]) (tmps:Array Value) (P:Program) (w:World) :
  (results fn tmps).run P w =
   ((asAddr (tmps.getD p undef)).run P w).andThen fun a w₁=>((loadVar ty a).run P w₁).andThen fun x w₂=>((asAddr (tmps.getD q undef)).run P w₂).andThen fun b w₃=>((loadVar ty2 b).run P w₃).andThen fun y w₄=>.ok (.tuple #[x,y,tmps.getD u undef]) w₄:=by
 simp only [results,h]
 simp [Sem.run_bind,Result.andThen]
end Go.Proofs.YtippdjmpkafifaaGreat
namespace Go.Proofs.YtippdjmpkafifaaGreat
open Go.RowKit
namespace K
def setGo (nd:Int) (r:List Q):Int→List Int→Bool
 | _,[]=>true
 | p,k :: rest=>decide (0≤k) && (decide (k < (r.length:Int)) && (decide (p < k) && (decide ((req r k).node < nd) && setGo nd r k rest)))
def ok31 (nd:Int) (l:List Ro) (s:S) (r:List Q) (v:List Int):Bool :=
 (netErr nd l == 0) && ((T.check s == 0) && (decide (s.depot < nd) && (!(r.any fun q=>!T.right q) && (decide (v.length≤6) && setGo nd r (-1) v))))
def prev (v:List Int):Nat→Int
 | 0=>-1
 | k + 1=>(v[k]?).getD (-1)
theorem setGo_at {nd:Int} {r:List Q} {v:List Int} {k:Nat} {i:Int} (h:v[k]? = some i) (p:Int):setGo nd r p (v.drop k)=(decide (0≤i) && (decide (i < (r.length:Int)) && (decide (p < i) && (decide ((req r i).node < nd) && setGo nd r i (v.drop (k + 1)))))):=by
 obtain ⟨hk,e⟩:=List.getElem?_eq_some_iff.1 h
 rw [List.drop_eq_getElem_cons hk,e]
 rfl
end K
structure Ext (w w':World):Prop where
 size:w.heap.size≤w'.heap.size
 cells:∀ (g:Nat) (cs:Array Value) (t:TypeId) (z:Nat × Nat),w.heap[g]? = some (Obj.cells cs t z)→w'.heap[g]? = some (Obj.cells cs t z)
theorem Ext.refl (w:World):Ext w w:=⟨Nat.le_refl _,fun _ _ _ _ h=>h⟩
theorem Ext.trans {a b c:World} (h:Ext a b) (h2:Ext b c):Ext a c:=⟨Nat.le_trans h.size h2.size,fun g cs t z e=>h2.cells g cs t z (h.cells g cs t z e)⟩
theorem Ext.below {w w':World} (h:Below w.heap.size w w'):Ext w w':=⟨h.size,fun _ _ _ _ e=>blk_below h e⟩
theorem Ext.cell {w w':World} (h:Ext w w') {p:Addr} {v:Value} (e:w.cell? p=some v):w'.cell? p=some v:=by
 have hlt:=cell_lt e
 cases ho:w.heap[p.block]? with
 | none=>rw [Array.getElem?_eq_none_iff] at ho;omega
 | some o =>
  cases o with
  | cells cs t z=>exact (World.cell?_of_block (by rw [h.cells _ _ _ _ ho,ho])).trans e
  | _=>simp [World.cell?,ho] at e
theorem Rd.ext {w w':World} {size n:Nat} {A:Option Addr} {xs:List Value} (h:Rd w size A n xs) (hb:Ext w w'):Rd w' size A n xs :=
 ⟨h.1,fun hn=>by
  obtain ⟨ad,e,hc⟩:=h.2 hn
  exact ⟨ad,e,fun j u hu=>hb.cell (hc j u hu)⟩⟩
theorem Ints.ext {w w':World} {A:Option Addr} {n:Nat} {l:List Int} (h:Ints w A n l) (hb:Ext w w'):Ints w' A n l:=⟨h.1,h.2.ext hb⟩
open Go.WideMaps Go.Maps Go.WideShapes
theorem laidOut:laidOutB Tryz.prog=true:=by kernel_rfl
theorem row122:(224:TypeId) < Tryz.prog.types.size:=of_decide_eq_true (by kernel_rfl)
theorem wide122:(match Tryz.prog.underlying 224 with | some (.array _ _) | some (.struct _)=>true | _=>false)=true:=by rw [Tryz.underlying224]
set_option maxRecDepth 100000 in
theorem tripLaw:Keyed Tryz.prog 224:=Keyed.of_law (deep_law_laid laidOut (m:=2) (by omega) row122 (by kernel_rfl) wide122)
theorem cells122:Tryz.prog.cellsOf 224=2:=by kernel_rfl
set_option maxRecDepth 100000 in
theorem tripType:Tryz.prog.keyType 224=true:=by kernel_rfl
theorem cells3:Tryz.prog.cellsOf 3=1:=by kernel_rfl
theorem typesPos:0 < Tryz.prog.types.size:=of_decide_eq_true (by kernel_rfl)
set_option maxRecDepth 4000 in
theorem tripKey {f k:Int} (hf:(Lit.int .i64 f).wf=true) (hk:(Lit.int .i64 k).wf=true):∃ l,keyOf Tryz.prog 224 (.agg #[.int .i64 f,.int .i64 k])=some l:=by
 unfold keyOf
 rw [Tryz.underlying224]
 simp only [tripType,Bool.true_and,Value.formed,Tryz.underlying224,cells122]
 have hp:=typesPos
 generalize Tryz.prog.types.size=N at *
 obtain ⟨M,rfl⟩:∃ M,N=M + 1:=⟨N - 1,by omega⟩
 have h1:Tryz.prog.keyLits (M + 1 + 1) 224 [.int .i64 f,.int .i64 k] = some ([Lit.int .i64 f] ++ [Lit.int .i64 k]):=by
  simp [Program.keyLits,Tryz.underlying224,Tryz.underlying3,cells122,cells3,hf,hk]
 have h2:(Value.agg #[Value.int IntKind.i64 f,Value.int IntKind.i64 k]).cells.toList=[.int .i64 f,.int .i64 k]:=rfl
 rw [h2,h1]
 exact ⟨_,rfl⟩
open Go.MapKept Go.ChangeMaps in
theorem Ext.of_grown {w w':World} {mb:Nat} {es:Array MapEntry} {clock:Nat} (hm:w.heap[mb]? = some (.map es clock)) (hg:w.grownBy w' (some mb)):Ext w w' :=
 ⟨hg.size,fun g cs t z e=>grow_blk hg e (fun e2=>by injection e2 with e2;subst e2;rw [hm] at e;cases e)⟩
def Memo (w:World) (mb:Nat) (nd:Int) (l:List Ro) (X:Nat→Prop):Prop :=
 ∃ es clock,w.heap[mb]? = some (.map es clock)∧∀ e ∈ es.toList,∃ f k A n c,e.key=.agg #[.int .i64 f,.int .i64 k]∧(Lit.int .i64 f).wf=true∧(Lit.int .i64 k).wf=true∧e.val=.slice A n c∧Ints w A n (K.times nd l f k)∧∀ ad,A=some ad→ad.block < w.heap.size∧¬ X ad.block
theorem Memo.ext {w w':World} {mb:Nat} {nd:Int} {l:List Ro} {X:Nat→Prop} (h:Memo w mb nd l X) (hg:w.grownBy w' (some mb)):Ext w w':=by
 obtain ⟨es,clock,hm,-⟩:=h
 exact Ext.of_grown hm hg
theorem Memo.keep {w w':World} {mb:Nat} {nd:Int} {l:List Ro} {X:Nat→Prop} (h:Memo w mb nd l X) (he:Ext w w') (hm:w'.heap[mb]? = w.heap[mb]?):Memo w' mb nd l X:=by
 obtain ⟨es,clock,hb,hes⟩:=h
 refine ⟨es,clock,hm.trans hb,fun e he'=>?_⟩
 obtain ⟨f,k,A,n,c,h1,h2,h3,h4,h5,h6⟩:=hes e he'
 exact ⟨f,k,A,n,c,h1,h2,h3,h4,h5.ext he,fun ad ha=>⟨Nat.lt_of_lt_of_le (h6 ad ha).1 he.size,(h6 ad ha).2⟩⟩
theorem Memo.below {w w':World} {mb:Nat} {nd:Int} {l:List Ro} {X:Nat→Prop} (h:Memo w mb nd l X) (hb:Below w.heap.size w w'):Memo w' mb nd l X:=by
 have h1:=h
 obtain ⟨es,clock,hm,-⟩:=h1
 exact h.keep (Ext.below hb) (hb.block mb (Array.getElem?_eq_some_iff.1 hm).1)
theorem Memo.lt {w:World} {mb:Nat} {nd:Int} {l:List Ro} {X:Nat→Prop} (h:Memo w mb nd l X):mb < w.heap.size:=by
 obtain ⟨es,clock,hm,-⟩:=h
 exact (Array.getElem?_eq_some_iff.1 hm).1
open Go.MapKept Go.ChangeMaps in
theorem Memo.look {w:World} {mb:Nat} {nd:Int} {l:List Ro} {X:Nat→Prop} (h:Memo w mb nd l X) {f k:Int} (hf:(Lit.int .i64 f).wf=true) (hk:(Lit.int .i64 k).wf=true) :
  ∃ A n c ok,(Instr.lookup 211 (.map (some mb)) (.agg #[.int .i64 f,.int .i64 k]) true).run Tryz.prog w=.ok (.tuple #[.slice A n c,.bool ok]) w∧(ok=true→Ints w A n (K.times nd l f k)):=by
 obtain ⟨es,clock,hb,hes⟩:=h
 obtain ⟨kl,hkey⟩:=tripKey hf hk
 have hkeys:∀ e ∈ es.toList,∃ l,keyOf Tryz.prog 224 e.key=some l:=fun e he=>by
  obtain ⟨f',k',A,n,c,h1,h2,h3,-⟩:=hes e he
  rw [h1];exact tripKey h2 h3
 rcases tripLaw.find w hkey es.toList hkeys with ⟨h1,h2⟩ | ⟨j,e0,h1,h2,h3⟩
 ·refine ⟨none,0,0,false,?_,fun e=>by cases e⟩
  simp [Instr.lookup,run_underlying Tryz.underlying211,MapKept.run_getObj_map hb,tripLaw.check w _ hkey,h1,Result.andThen]
 ·obtain ⟨f',k',A,n,c,g1,-,-,g4,g5,-⟩:=hes e0 (List.mem_of_getElem? h2)
  rw [h3] at g1
  injection g1 with g1
  simp at g1
  obtain ⟨rfl,rfl⟩:=g1
  refine ⟨A,n,c,true,?_,fun _=>g5⟩
  rw [←g4]
  simp [Instr.lookup,run_underlying Tryz.underlying211,MapKept.run_getObj_map hb,tripLaw.check w _ hkey,h1,Result.andThen]
open Go.MapKept Go.ChangeMaps in
theorem Memo.store {w:World} {mb:Nat} {nd:Int} {l:List Ro} {X:Nat→Prop} (h:Memo w mb nd l X) {f k:Int} (hf:(Lit.int .i64 f).wf=true) (hk:(Lit.int .i64 k).wf=true) {A:Option Addr} {n c:Nat} (hv:Ints w A n (K.times nd l f k)) (hA:∀ ad,A=some ad→ad.block < w.heap.size∧¬ X ad.block) :
  ∃ w',(Instr.mapUpdate 211 (.map (some mb)) (.agg #[.int .i64 f,.int .i64 k]) (.slice A n c)).run Tryz.prog w=.ok () w'∧Memo w' mb nd l X∧w.grownBy w' (some mb):=by
 obtain ⟨es,clock,hb,hes⟩:=h
 obtain ⟨kl,hkey⟩:=tripKey hf hk
 have hkeys:∀ e ∈ es.toList,∃ l,keyOf Tryz.prog 224 e.key=some l:=fun e he=>by
  obtain ⟨f',k',A,n,c,h1,h2,h3,-⟩:=hes e he
  rw [h1];exact tripKey h2 h3
 have hgr:∀ es' clock',w.grownBy (setBlock w mb (.map es' clock')) (some mb):=fun es' clock'=>⟨rfl,rfl,rfl,by simp [setBlock],fun i _ hi=>heap_setBlock_other hb _ (fun e=>hi (by rw [e]))⟩
 have hmk:∀ es' clock',(∀ e ∈ es'.toList,e ∈ es.toList∨(e.key=.agg #[.int .i64 f,.int .i64 k]∧e.val=.slice A n c))→Memo (setBlock w mb (.map es' clock')) mb nd l X:=fun es' clock' he=>by
  have hx:=Ext.of_grown hb (hgr es' clock')
  refine ⟨es',clock',heap_setBlock_same hb _,fun e h9=>?_⟩
  rcases he e h9 with h9 | ⟨h9,h10⟩
  ·obtain ⟨f',k',A,n,c,h1,h2,h3,h4,h5,h6⟩:=hes e h9
   exact ⟨f',k',A,n,c,h1,h2,h3,h4,h5.ext hx,fun ad ha=>⟨Nat.lt_of_lt_of_le (h6 ad ha).1 hx.size,(h6 ad ha).2⟩⟩
  ·exact ⟨f,k,A,n,c,h9,hf,hk,h10,hv.ext hx,fun ad ha=>⟨Nat.lt_of_lt_of_le (hA ad ha).1 hx.size,(hA ad ha).2⟩⟩
 rcases tripLaw.find w hkey es.toList hkeys with ⟨h1,h2⟩ | ⟨j,e0,h1,h2,h3⟩
 ·refine ⟨setBlock w mb (.map (es.push ⟨.agg #[.int .i64 f,.int .i64 k],.slice A n c,clock⟩) (clock + 1)),?_,hmk _ _ ?_,hgr _ _⟩
  ·simp [Instr.mapUpdate,run_underlying Tryz.underlying211,MapKept.run_getObj_map hb,tripLaw.check w false hkey,h1,MapKept.run_setObj_map _ hb,Result.andThen,setBlock]
  ·intro e he
   simp only [Array.toList_push,List.mem_append,List.mem_singleton] at he
   rcases he with he | rfl
   ·exact .inl he
   ·exact .inr ⟨rfl,rfl⟩
 ·have hj:es[j]? = some e0:=by simpa using h2
  refine ⟨setBlock w mb (.map (es.modify j fun e=>{ e with key:=.agg #[.int .i64 f,.int .i64 k],val:=.slice A n c }) clock),?_,hmk _ _ ?_,hgr _ _⟩
  ·simp [Instr.mapUpdate,run_underlying Tryz.underlying211,MapKept.run_getObj_map hb,tripLaw.check w false hkey,h1,hj,h3,tripLaw.stays w hkey,MapKept.run_setObj_map _ hb,Result.andThen,setBlock]
  ·intro e he
   rw [Array.mem_toList_iff,Array.mem_iff_getElem?] at he
   obtain ⟨i,he⟩:=he
   rw [Array.getElem?_modify] at he
   by_cases hij:j=i
   ·rw [if_pos hij,←hij,hj] at he
    simp at he
    subst he
    exact .inr ⟨rfl,rfl⟩
   ·rw [if_neg hij] at he
    exact .inl (by rw [Array.mem_toList_iff,Array.mem_iff_getElem?];exact ⟨i,he⟩)
theorem Lst.ext {α:Type} {f:α→List Value} {s:Nat} {w w':World} {A:Option Addr} {n:Nat} {l:List α} (h:Lst f s w A n l) (hb:Ext w w'):Lst f s w' A n l:=⟨h.1,h.2.ext hb⟩
theorem Wins.ext {w w':World} {A:Option Addr} {n:Nat} {l:List (Int × Int)} (h:Wins w A n l) (hb:Ext w w'):Wins w' A n l:=⟨h.1,h.2.ext hb⟩
theorem Reqs.ext {w w':World} {A:Option Addr} {n:Nat} {l:List Q} (h:Reqs w A n l) (hb:Ext w w'):Reqs w' A n l:=⟨h.1,h.2.1.ext hb,fun q hq=>(h.2.2 q hq).ext hb⟩
theorem At.ext {w w':World} {x:C} (h:At w x) (hb:Ext w w'):At w' x:=⟨Lst.ext h.net hb,h.rooms.ext hb,h.reqs.ext hb,h.b1,h.b2,h.b3,h.b4⟩
structure PS where
 x:C
 A:Option Addr
 n:Nat
 c:Nat
 l:List Int
def PBlk (w:World) (b mb:Nat) (p:PS):Prop :=
 w.heap[b]? = some (.cells #[.int .i64 p.x.nd,.slice p.x.A p.x.n p.x.c,.int .i64 p.x.s.day,.int .i64 p.x.s.depot,.int .i64 p.x.s.start,.int .i64 p.x.s.end_,.int .i64 p.x.s.tare,.slice p.x.s.A p.x.s.n p.x.s.c,.slice p.x.B p.x.m p.x.d,.slice p.A p.n p.c,.map (some mb)] 213 (0,0))
def PCells (b mb:Nat) (p:PS) (w':World):Prop :=
 w'.cell? ⟨b,0,none⟩=some (.int .i64 p.x.nd)∧w'.cell? ⟨b,1,none⟩=some (.slice p.x.A p.x.n p.x.c)∧w'.cell? ⟨b,2,none⟩=some (.int .i64 p.x.s.day)∧w'.cell? ⟨b,3,none⟩=some (.int .i64 p.x.s.depot)∧w'.cell? ⟨b,4,none⟩=some (.int .i64 p.x.s.start) ∧
  w'.cell? ⟨b,5,none⟩=some (.int .i64 p.x.s.end_)∧w'.cell? ⟨b,6,none⟩=some (.int .i64 p.x.s.tare)∧w'.cell? ⟨b,7,none⟩=some (.slice p.x.s.A p.x.s.n p.x.s.c)∧w'.cell? ⟨b,8,none⟩=some (.slice p.x.B p.x.m p.x.d)∧w'.cell? ⟨b,9,none⟩=some (.slice p.A p.n p.c)∧w'.cell? ⟨b,10,none⟩=some (.map (some mb))
theorem PBlk.cells {w:World} {b mb:Nat} {p:PS} (h:PBlk w b mb p):PCells b mb p w :=
 ⟨blk_cell h 0 _ rfl,blk_cell h 1 _ rfl,blk_cell h 2 _ rfl,blk_cell h 3 _ rfl,blk_cell h 4 _ rfl,blk_cell h 5 _ rfl,blk_cell h 6 _ rfl,blk_cell h 7 _ rfl,blk_cell h 8 _ rfl,blk_cell h 9 _ rfl,blk_cell h 10 _ rfl⟩
structure PAt (w:World) (b mb:Nat) (p:PS) (X:Nat→Prop):Prop where
 at_:At w p.x
 set:Ints w p.A p.n p.l
 blk:PBlk w b mb p
 memo:Memo w mb p.x.nd p.x.l X
 ok:K.ok31 p.x.nd p.x.l p.x.s p.x.r p.l=true
 cap:p.n≤p.c
theorem PAt.keep {w w':World} {b mb:Nat} {p:PS} {X:Nat→Prop} (h:PAt w b mb p X) (he:Ext w w') (hm:Memo w' mb p.x.nd p.x.l X):PAt w' b mb p X :=
 ⟨h.at_.ext he,h.set.ext he,he.cells _ _ _ _ h.blk,hm,h.ok,h.cap⟩
theorem PAt.below {w w':World} {b mb:Nat} {p:PS} {X:Nat→Prop} (h:PAt w b mb p X) (hb:Below w.heap.size w w'):PAt w' b mb p X:=h.keep (Ext.below hb) (h.memo.below hb)
theorem Memo.more {w:World} {mb:Nat} {nd:Int} {l:List Ro} {X Y:Nat→Prop} (h:Memo w mb nd l X) (hY:∀ g,g < w.heap.size→Y g→X g):Memo w mb nd l Y:=by
 obtain ⟨es,clock,hb,hes⟩:=h
 refine ⟨es,clock,hb,fun e he'=>?_⟩
 obtain ⟨f,k,A,n,c,h1,h2,h3,h4,h5,h6⟩:=hes e he'
 exact ⟨f,k,A,n,c,h1,h2,h3,h4,h5,fun ad ha=>⟨(h6 ad ha).1,fun hy=>(h6 ad ha).2 (hY _ (h6 ad ha).1 hy)⟩⟩
theorem PAt.more {w:World} {b mb:Nat} {p:PS} {X Y:Nat→Prop} (h:PAt w b mb p X) (hY:∀ g,g < w.heap.size→Y g→X g):PAt w b mb p Y:=⟨h.at_,h.set,h.blk,h.memo.more hY,h.ok,h.cap⟩
theorem Memo.set {w:World} {mb:Nat} {nd:Int} {l:List Ro} {X:Nat→Prop} (h:Memo w mb nd l X) {g:Nat} (hg:X g) (hne:g ≠ mb) (i:Nat) (v:Value):Memo (w.setCell ⟨g,i,none⟩ v) mb nd l X:=by
 obtain ⟨es,clock,hb,hes⟩:=h
 refine ⟨es,clock,(Below.heap_setCell w _ _ mb (fun e=>hne e.symm)).trans hb,fun e he'=>?_⟩
 obtain ⟨f,k,A,n,c,h1,h2,h3,h4,h5,h6⟩:=hes e he'
 exact ⟨f,k,A,n,c,h1,h2,h3,h4,h5.set _ (fun ad ha e2=>(h6 ad ha).2 (by rw [e2];exact hg)),fun ad ha=>⟨by rw [World.size_setCell];exact (h6 ad ha).1,(h6 ad ha).2⟩⟩
def Went (w w':World) (b mb:Nat) (p:PS) (X:Nat→Prop):Prop:=w.grownBy w' (some mb)∧PAt w' b mb p X
theorem Went.ext {w w':World} {b mb:Nat} {p:PS} {X:Nat→Prop} (h:Went w w' b mb p X) (hp:PAt w b mb p X):Ext w w':=hp.memo.ext h.1
theorem went_below {w w':World} {b mb:Nat} {p:PS} {X:Nat→Prop} (hp:PAt w b mb p X) (hb:Below w.heap.size w w'):Went w w' b mb p X:=⟨grow_below (grow_refl w _) hb,hp.below hb⟩
theorem Went.trans {w w1 w2:World} {b mb:Nat} {p:PS} {X:Nat→Prop} (h:Went w w1 b mb p X) (h2:Went w1 w2 b mb p X):Went w w2 b mb p X:=⟨grow_step h.1 h2.1 (.inl rfl),h2.2⟩
theorem Went.below {w w1 w2:World} {b mb:Nat} {p:PS} {X:Nat→Prop} (h:Went w w1 b mb p X) (h2:Below w1.heap.size w1 w2):Went w w2 b mb p X:=h.trans (went_below h.2 h2)
def RetNew (w w':World) (l:List Int) (e:Ending):Prop:=(∃ A n c,e=.returned (.slice A n c)∧Ints w' A n l∧∀ ad,A=some ad→w.heap.size≤ad.block∧ad.block < w'.heap.size)∧Below w.heap.size w w'
set_option maxRecDepth 100000 in
set_option maxHeartbeats 4000000 in
theorem times_new (nd:Int) (A:Option Addr) (n c:Nat) (l:List Ro) (s k:Int) (w:World) (hl:Roads w A n l) (hn:n≤1000000000) :
  Calls Tryz.prog 192 #[.agg #[.int .i64 nd,.slice A n c],.int .i64 s,.int .i64 k] w fun e w'=>RetNew w w' (K.times nd l s k) e:=by
 have b0:=(Below.refl w.heap.size w).alloc (Nat.le_refl _) (.cells #[.int .i64 nd,.slice A n c] 24)
 have hP:=Net.new w nd A n c
 have p0:=hP.c0
 have p1:=hP.c1
 cases h1:(K.netErr nd l == 0)
 ·have HX:=Lib.hid (K.times_nil (s:=s) (k:=k) (show (K.netErr nd l == 0 && T.btw s 0 (nd - 1))=false by simp [h1]))
  have h1':(K.netErr nd l != 0)=true:=by simp [bne,h1]
  go_enter Tryz.func192,Tryz.ntmps192
  go_wp2_with fail
  refine (netcheck_any nd A n c l _ (hl.below b0) hn).mono ?_;rintro e w1 ⟨rfl,hb1⟩
  go_wp2_with fail
  go_ret
  exact ⟨⟨none,0,0,rfl,by rw [HX.out];exact ints_nil _,fun ad e=>(nomatch e)⟩,bel b0 hb1⟩
 ·have h1':(K.netErr nd l != 0)=false:=by simp [bne,h1]
  have hne:K.netErr nd l=0:=by simpa using h1
  have HE:=Lib.hid hne
  obtain ⟨⟨n0,n1⟩,hl6,hfine,hmin⟩:=K.netErr_ok hne
  clear hne
  cases h2:T.btw s 0 (nd - 1)
  ·have HX:=Lib.hid (K.times_nil (k:=k) (show (K.netErr nd l == 0 && T.btw s 0 (nd - 1))=false by simp [h2]))
   go_enter Tryz.func192,Tryz.ntmps192
   go_wp2_with fail
   refine (netcheck_any nd A n c l _ (hl.below b0) hn).mono ?_;rintro e w1 ⟨rfl,hb1⟩
   have hP1:=hP.below hb1
   have p0:=hP1.c0
   have p1:=hP1.c1
   go_wp2_with fail
   refine (in_any _ _ _ _).mono ?_;rintro e w' ⟨rfl,rfl⟩
   go_wp2_with fail
   go_ret
   exact ⟨⟨none,0,0,rfl,by rw [HX.out];exact ints_nil _,fun ad e=>(nomatch e)⟩,bel b0 hb1⟩
  ·obtain ⟨s0,s1⟩:=T.btw_iff.1 h2
   obtain ⟨m,rfl⟩:∃ m:Nat,nd=(m:Int):=⟨nd.toNat,by omega⟩
   obtain ⟨t,rfl⟩:∃ t:Nat,s=(t:Int):=⟨s.toNat,by omega⟩
   have HT:=Lib.hid (K.times_dist (k:=k) HE.out h2)
   have HF:=Lib.hid hfine
   have HM:=Lib.hid hmin
   clear hfine hmin
   go_enter Tryz.func192,Tryz.ntmps192
   go_wp2_with fail
   refine (netcheck_any m A n c l _ (hl.below b0) hn).mono ?_;rintro e w1 ⟨rfl,hb1⟩
   have hP1:=hP.below hb1
   have p0:=hP1.c0
   have p1:=hP1.c1
   go_wp2_with fail
   refine (in_any _ _ _ _).mono ?_;rintro e w' ⟨rfl,rfl⟩
   go_wp2_with fail
   refine (search_any m A n c l t k _ (hl.below (bel b0 hb1)) (by rw [hl.1];omega) (by omega) HF.out HM.out (by omega)).mono ?_
   rintro e w2 ⟨g,out,rfl,hg,hI,hD,hb2⟩
   have HE2:=Lib.hid (G.Dist.eq HT.out hD)
   have hol:=hD.1
   have HOL:=Lib.hid hol
   clear hD hol
   go_wp2_with fail
   go_ret
   have hi:=hI.ints
   rw [HOL.out] at hi
   have hs1:=(bel b0 hb1).size
   exact ⟨⟨_,_,_,rfl,by rw [HE2.out];exact hi,fun ad e=>by injection e with e;subst e;exact ⟨Nat.le_trans hs1 hg,hI.lt⟩⟩,bel (bel b0 hb1) hb2⟩
end Go.Proofs.YtippdjmpkafifaaGreat
namespace Go.Proofs.YtippdjmpkafifaaGreat
open Go.RowKit
namespace K
theorem ok31_parts {nd:Int} {l:List Ro} {s:S} {r:List Q} {v:List Int} (h:ok31 nd l s r v=true):netErr nd l=0∧T.check s=0∧s.depot < nd∧(∀ q ∈ r,T.right q=true)∧v.length≤6∧setGo nd r (-1) v=true:=by
 simp only [ok31,Bool.and_eq_true,beq_iff_eq,decide_eq_true_eq,Bool.not_eq_true',List.any_eq_false] at h
 exact ⟨h.1,h.2.1,h.2.2.1,fun q hq=>by have:=h.2.2.2.1 q hq;simpa using this,h.2.2.2.2.1,h.2.2.2.2.2⟩
end K
set_option maxHeartbeats 400000 in
theorem planned1_any (q:Q) (w:World) (hl:Wins w q.A q.n q.l) (hn:q.n≤1000000000) :
  Calls Tryz.prog 174 #[.agg #[.int .i64 q.node,.int .i64 q.room,.int .i64 q.kilos,.int .i64 q.service,.int .i64 q.frm,.int .i64 q.by_,.slice q.A q.n q.c]] w fun e w'=>e=.returned (.bool (!T.right q))∧Below w.heap.size w w':=by
 go_enter Tryz.func174,Tryz.ntmps174
 go_wp2_with fail
 refine (tright_any q _ (hl.below ?_) hn).mono ?_
 ·exact (Below.refl _ _).alloc (Nat.le_refl _) _
 rintro e w1 ⟨rfl,hb1⟩
 go_wp2_with fail
 go_ret
 exact ⟨rfl,bel ((Below.refl _ _).alloc (Nat.le_refl _) _) hb1⟩
set_option maxHeartbeats 1000000 in
theorem indexP (A:Option Addr) (n c:Nat) (l:List Q) (w:World) (hl:Reqs w A n l) (hn:n≤1000000000) (hq:∀ q ∈ l,q.n≤1000000000) :
  Calls Tryz.prog 202 #[.slice A n c,.func (.func 174) #[] #[]] w fun e w'=>(∃ i:Int,e=.returned (.int .i64 i)∧(decide (0≤i))=l.any fun q=>!T.right q)∧Below w.heap.size w w':=by
 go_enter Tryz.func202,Tryz.ntmps202
 go_wp2_with fail
 go_loopw [8] (fun vi wr=>∃ k:Nat,vi=.int .i64 k∧k≤n∧Hid ((l.any fun q=>!T.right q)=(l.drop k).any fun q=>!T.right q)∧Below w.heap.size w wr) (fun vi _=>n - (intOf vi).toNat)
 case atStart=>exact ⟨0,rfl,by omega,by show _=_;rw [List.drop_zero],Below.refl _ _⟩
 case round =>
  obtain ⟨k,rfl,hk,hr,hbr⟩:=hrel
  by_cases hlt:k < n
  ·obtain ⟨ad,q,rfl,hg,hwq,c0,c1,c2,c3,c4,c5,c6⟩:=(hl.below hbr).at_ hlt
   have hqn:=hq q (List.mem_of_getElem? hg)
   have HS:=Lib.hid (drop_any (p:=fun q=>!T.right q) hg)
   clear hg
   go_wp2_with fail
   refine (planned1_any q _ hwq hqn).mono ?_
   rintro e w1 ⟨rfl,hb1⟩
   cases hpx:T.right q
   ·go_wp2_with fail
    go_ret
    exact ⟨⟨k,rfl,by rw [hr.out,HS.out,hpx];simp⟩,bel hbr hb1⟩
   ·go_wp2_with fail
    go_roundw
    case rel=>exact ⟨k + 1,by go_num,by omega,by show _=_;rw [hr.out,HS.out,hpx];rfl,bel hbr hb1⟩
    case measure=>simp [intOf];omega
  ·have hd:l.drop k=[]:=List.drop_eq_nil_of_le (by rw [←hl.1];omega)
   have HD:=Lib.hid hd
   clear hd
   go_wp2_with fail
   go_ret
   exact ⟨⟨-1,rfl,by rw [hr.out,HD.out];rfl⟩,hbr⟩
set_option maxHeartbeats 400000 in
theorem containsP (A:Option Addr) (n c:Nat) (l:List Q) (w:World) (hl:Reqs w A n l) (hn:n≤1000000000) (hq:∀ q ∈ l,q.n≤1000000000) :
  Calls Tryz.prog 175 #[.slice A n c,.func (.func 174) #[] #[]] w fun e w'=>e=.returned (.bool (l.any fun q=>!T.right q))∧Below w.heap.size w w':=by
 go_enter Tryz.func175,Tryz.ntmps175
 go_wp2_with fail
 refine (indexP A n c l _ hl hn hq).mono ?_
 rintro e w1 ⟨⟨i,rfl,hi⟩,hb1⟩
 go_wp2_with fail
 go_ret
 exact ⟨rfl,hb1⟩
def RetPlan (x:C) (V:Option Addr) (vn vc:Nat) (v:List Int) (w w':World) (e:Ending):Prop :=
 ((K.ok31 x.nd x.l x.s x.r v=false∧e=.returned (.tuple #[.pointer none,.bool false])) ∨
  ∃ b mb,e=.returned (.tuple #[.pointer (some ⟨b,0,none⟩),.bool true])∧w.heap.size≤b∧w.heap.size≤mb∧(∀ X,PAt w' b mb ⟨x,V,vn,vc,v⟩ X))∧Below w.heap.size w w'
theorem planned_no {x:C} {V:Option Addr} {vn vc:Nat} {v:List Int} {w w':World} (h:K.ok31 x.nd x.l x.s x.r v=false) (hb:Below w.heap.size w w'):RetPlan x V vn vc v w w' (.returned (.tuple #[.pointer none,.bool false])):=⟨.inl ⟨h,rfl⟩,hb⟩
set_option maxRecDepth 100000 in
set_option maxHeartbeats 16000000 in
theorem planned_any (x:C) (V:Option Addr) (vn vc:Nat) (v:List Int) (w:World) (hx:At w x) (hV:Ints w V vn v) (hvc:vn≤vc) (hvn:vn≤1000000000) :
  Calls Tryz.prog 128 #[.agg #[.int .i64 x.nd,.slice x.A x.n x.c],.agg #[.int .i64 x.s.day,.int .i64 x.s.depot,.int .i64 x.s.start,.int .i64 x.s.end_,.int .i64 x.s.tare,.slice x.s.A x.s.n x.s.c],.slice x.B x.m x.d,.slice V vn vc] w fun e w'=>RetPlan x V vn vc v w w' e:=by
 have b0:=((Below.refl w.heap.size w).alloc (Nat.le_refl _) (.cells #[.int .i64 x.nd,.slice x.A x.n x.c] 24)).alloc (by rw [World.size_alloc];omega) (.cells #[.int .i64 x.s.day,.int .i64 x.s.depot,.int .i64 x.s.start,.int .i64 x.s.end_,.int .i64 x.s.tare,.slice x.s.A x.s.n x.s.c] 63)
 have SZ:=World.size_alloc w (.cells #[.int .i64 x.nd,.slice x.A x.n x.c] 24)
 have hP:=(Net.new w x.nd x.A x.n x.c).below ((Below.refl _ _).alloc (Nat.le_refl _) (.cells #[.int .i64 x.s.day,.int .i64 x.s.depot,.int .i64 x.s.start,.int .i64 x.s.end_,.int .i64 x.s.tare,.slice x.s.A x.s.n x.s.c] 63))
 have hS:=Shf.new (w.alloc (.cells #[.int .i64 x.nd,.slice x.A x.n x.c] 24)) x.s
 rw [SZ] at hS
 have p0:=hP.c0
 have p1:=hP.c1
 go_enter Tryz.func128,Tryz.ntmps128
 go_wp2_with fail
 obtain ⟨w0,hw0⟩:∃ w0:World,w0=(w.alloc (.cells #[.int .i64 x.nd,.slice x.A x.n x.c] 24)).alloc (.cells #[.int .i64 x.s.day,.int .i64 x.s.depot,.int .i64 x.s.start,.int .i64 x.s.end_,.int .i64 x.s.tare,.slice x.s.A x.s.n x.s.c] 63):=⟨_,rfl⟩
 rw [←hw0] at b0 hP hS ⊢
 clear hw0 p0 p1 SZ
 refine (netcheck_any x.nd x.A x.n x.c x.l _ (Lst.below hx.net b0) hx.b1).mono ?_
 rintro e w1 ⟨rfl,b1⟩
 have hP:=hP.below b1
 have hS:=hS.below b1
 have hb:=bel b0 b1
 clear b0 b1
 obtain ⟨s0,s1,s2,s3,s4,s5⟩:=hS.cells
 cases h1:(K.netErr x.nd x.l == 0)
 ·have h1':(K.netErr x.nd x.l != 0)=true:=by simp [bne,h1]
  have HX:=Lib.hid (show K.ok31 x.nd x.l x.s x.r v=false by simp [K.ok31,h1])
  go_wp2_with fail
  go_ret2
  exact planned_no HX.out hb
 have h1':(K.netErr x.nd x.l != 0)=false:=by simp [bne,h1]
 go_wp2_with fail
 refine (check_any x.s _ (hx.below hb).rooms hx.b2).mono ?_
 rintro e w2 ⟨rfl,b2⟩
 have hP:=hP.below b2
 have hS:=hS.below b2
 have hb:=bel hb b2
 clear b2 s0 s1 s2 s3 s4 s5
 have p0:=hP.c0
 obtain ⟨s0,s1,s2,s3,s4,s5⟩:=hS.cells
 cases h2:(T.check x.s == 0)
 ·have h2':(T.check x.s != 0)=true:=by simp [bne,h2]
  have HX:=Lib.hid (show K.ok31 x.nd x.l x.s x.r v=false by simp [K.ok31,h2])
  go_wp2_with fail
  go_ret2
  exact planned_no HX.out hb
 have h2':(T.check x.s != 0)=false:=by simp [bne,h2]
 cases h3:decide (x.nd≤x.s.depot)
 rotate_left
 ·have h3':x.nd≤x.s.depot:=of_decide_eq_true h3
  have HX:=Lib.hid (show K.ok31 x.nd x.l x.s x.r v=false by simp [K.ok31];intros;omega)
  go_wp2_with fail
  go_ret2
  exact planned_no HX.out hb
 have h3':¬ x.nd≤x.s.depot:=of_decide_eq_false h3
 go_wp2_with fail
 refine (containsP x.B x.m x.d x.r _ (hx.below hb).reqs hx.b3 hx.b4).mono ?_
 rintro e w3 ⟨rfl,b3⟩
 have hP:=hP.below b3
 have hS:=hS.below b3
 have hb:=bel hb b3
 clear b3 s0 s1 s2 s3 s4 s5 p0
 obtain ⟨s0,s1,s2,s3,s4,s5⟩:=hS.cells
 cases h4:(x.r.any fun q=>!T.right q)
 rotate_left
 ·have HX:=Lib.hid (show K.ok31 x.nd x.l x.s x.r v=false by simp only [K.ok31,h4];simp)
  go_wp2_with fail
  go_ret2
  exact planned_no HX.out hb
 cases h5:decide ((6:Int) < (vn:Int))
 rotate_left
 ·have h5':6 < vn:=by have:=of_decide_eq_true h5;omega
  have HX:=Lib.hid (show K.ok31 x.nd x.l x.s x.r v=false by simp [K.ok31];intros;have:=hV.1;omega)
  go_wp2_with fail
  go_ret2
  exact planned_no HX.out hb
 have h5':vn≤6:=by have:=of_decide_eq_false h5;omega
 have HX:=Lib.hid (show K.ok31 x.nd x.l x.s x.r v=K.setGo x.nd x.r (-1) v by
  simp only [K.ok31,h1,h2,h4]
  simp [show x.s.depot < x.nd by omega,show v.length≤6 by have:=hV.1;omega])
 clear h1 h2 h3 h4
 have HLN:=Lib.hid hV.1
 go_wp2_with fail
 go_loopw [40] (fun v40 wr=>∃ k:Nat,v40=.int .i64 k∧k≤vn∧Hid (K.ok31 x.nd x.l x.s x.r v=K.setGo x.nd x.r (K.prev v k) (v.drop k))∧Below w3.heap.size w3 wr) (fun v40 _=>vn - (intOf v40).toNat)
 case atStart=>exact ⟨0,rfl,by omega,HX.out,Below.refl _ _⟩
 case round =>
  clear HX s0 s1 s2 s3 s4 s5
  obtain ⟨k,rfl,hk,hr,hbr⟩:=hrel
  have hbw:=bel hb hbr
  have hPr:=hP.below hbr
  have p0:=hPr.c0
  by_cases hlt:k < vn
  ·obtain ⟨adv,i,rfl,hi,ci⟩:=(hV.below hbw).at_ hlt
   have HR:=Lib.hid (show K.ok31 x.nd x.l x.s x.r v=_ from hr.out.trans (K.setGo_at hi (K.prev v k)))
   have HNX:=Lib.hid (show K.prev v (k + 1)=i by simp [K.prev,hi])
   have HI:=Lib.hid hi
   clear hi hr
   have k0:(0:Int)≤(k:Int):=by omega
   have k1:(k:Int) < (vn:Int):=by omega
   cases c1:decide (i < 0)
   rotate_left
   ·have HX:=Lib.hid (show K.ok31 x.nd x.l x.s x.r v=false by rw [HR.out];have:=of_decide_eq_true c1;simp;omega)
    go_wp2_with fail
    go_quiet (fail)
    go_wp2_with fail
    go_ret2
    exact planned_no HX.out (below_drewN hbw _)
   have hi0:¬ i < 0:=of_decide_eq_false c1
   obtain ⟨j,rfl⟩:∃ j:Nat,i=(j:Int):=⟨i.toNat,by omega⟩
   cases c2:decide (x.m≤j)
   rotate_left
   ·have c2':decide ((x.m:Int)≤(j:Int))=true:=by simpa using c2
    have HX:=Lib.hid (show K.ok31 x.nd x.l x.s x.r v=false by rw [HR.out];have:=of_decide_eq_true c2;have:=hx.reqs.1;simp;omega)
    go_wp2_with fail
    go_quiet (fail)
    go_wp2_with fail
    go_ret2
    exact planned_no HX.out (below_drewN hbw _)
   have c2':decide ((x.m:Int)≤(j:Int))=false:=by simpa using c2
   have hjm:j < x.m:=by have:=of_decide_eq_false c2;omega
   obtain ⟨ad,q,hB,hgq,-,e0,-⟩:=(hx.reqs.below hbw).at_ hjm
   have HRQ:=Lib.hid (K.req_get hgq)
   have j0:(0:Int)≤(j:Int):=by omega
   have j1:(j:Int) < (x.m:Int):=by omega
   have hrl:x.m=x.r.length:=hx.reqs.1
   have HRL:=Lib.hid hrl
   clear hgq hrl
   rw [hB]
   cases c5:decide (x.nd≤q.node)
   ·have h5:¬ x.nd≤q.node:=of_decide_eq_false c5
    rcases Nat.eq_zero_or_pos k with hk0 | hk0
    ·have k2:decide ((0:Int) < (k:Int))=false:=by simp;omega
     have k2n:decide (0 < k)=false:=by simp;omega
     have HK0:=Lib.hid hk0
     clear hk0
     have HN:=Lib.hid (show K.ok31 x.nd x.l x.s x.r v=K.setGo x.nd x.r (K.prev v (k + 1)) (v.drop (k + 1)) by
      rw [HR.out,HRQ.out,HNX.out,show K.prev v k=-1 by rw [HK0.out];rfl];simp [show j < x.r.length by rw [←HRL.out];exact hjm,show q.node < x.nd by omega,show (-1:Int) < (j:Int) by omega])
     go_wp2_with fail
     go_quiet (fail)
     go_wp2_with fail
     go_roundw
     case rel=>exact ⟨k + 1,by go_num,by omega,HN.out,below_drewN hbr _⟩
     case measure=>simp [intOf];omega
    ·obtain ⟨kp,hkp⟩:∃ kp:Nat,k=kp + 1:=⟨k - 1,by omega⟩
     obtain ⟨adp,pv,ep,hp,cp⟩:=(hV.below hbw).at_ (k:=kp) (by omega)
     injection ep with ep
     subst ep
     have HPV:=Lib.hid (show K.prev v k=pv by rw [hkp];simp [K.prev,hp])
     have k2:decide ((0:Int) < (k:Int))=true:=by simp;omega
     have k2n:decide (0 < k)=true:=by simp;omega
     have k3:IntKind.i64.wrap ((k:Int) - 1)=(kp:Int):=by rw [IntWalk.i64_in _ (by omega)];omega
     have k4:(kp:Int) < (vn:Int):=by omega
     have k5:(0:Int)≤(kp:Int):=by omega
     have HKP:=Lib.hid hkp
     clear hp hkp
     cases c4:decide ((j:Int)≤pv)
     ·have HN:=Lib.hid (show K.ok31 x.nd x.l x.s x.r v=K.setGo x.nd x.r (K.prev v (k + 1)) (v.drop (k + 1)) by
       have:=of_decide_eq_false c4
       rw [HR.out,HRQ.out,HNX.out,HPV.out];simp [show j < x.r.length by rw [←HRL.out];exact hjm,show q.node < x.nd by omega,show pv < (j:Int) by omega])
      go_wp2_with fail
      go_quiet (fail)
      go_wp2_with fail
      go_roundw
      case rel=>exact ⟨k + 1,by go_num,by omega,HN.out,below_drewN hbr _⟩
      case measure=>simp [intOf];omega
     ·have HX:=Lib.hid (show K.ok31 x.nd x.l x.s x.r v=false by rw [HR.out,HPV.out];have:=of_decide_eq_true c4;simp;omega)
      go_wp2_with fail
      go_quiet (fail)
      go_wp2_with fail
      go_ret2
      exact planned_no HX.out (below_drewN hbw _)
   ·have HX:=Lib.hid (show K.ok31 x.nd x.l x.s x.r v=false by rw [HR.out,HRQ.out];have:=of_decide_eq_true c5;simp;omega)
    rcases Nat.eq_zero_or_pos k with hk0 | hk0
    ·have k2:decide ((0:Int) < (k:Int))=false:=by simp;omega
     have k2n:decide (0 < k)=false:=by simp;omega
     have HK0:=Lib.hid hk0
     clear hk0
     go_wp2_with fail
     go_quiet (fail)
     go_wp2_with fail
     go_ret2
     exact planned_no HX.out (below_drewN hbw _)
    ·obtain ⟨kp,hkp⟩:∃ kp:Nat,k=kp + 1:=⟨k - 1,by omega⟩
     obtain ⟨adp,pv,ep,hp,cp⟩:=(hV.below hbw).at_ (k:=kp) (by omega)
     injection ep with ep
     subst ep
     have k2:decide ((0:Int) < (k:Int))=true:=by simp;omega
     have k2n:decide (0 < k)=true:=by simp;omega
     have k3:IntKind.i64.wrap ((k:Int) - 1)=(kp:Int):=by rw [IntWalk.i64_in _ (by omega)];omega
     have k4:(kp:Int) < (vn:Int):=by omega
     have k5:(0:Int)≤(kp:Int):=by omega
     have HKP:=Lib.hid hkp
     clear hp hkp
     cases c4:decide ((j:Int)≤pv)
     all_goals
      go_wp2_with fail
      go_quiet (fail)
      go_wp2_with fail
      go_ret2
      exact planned_no HX.out (below_drewN hbw _)
  ·have HN:=Lib.hid (show K.ok31 x.nd x.l x.s x.r v=true by rw [hr.out,List.drop_eq_nil_of_le (by rw [←HLN.out];omega)];rfl)
   have hSr:=hS.below hbr
   have p1:=hPr.c1
   obtain ⟨s0,s1,s2,s3,s4,s5⟩:=hSr.cells
   have hmm:=@run_makeMap Tryz.prog
   have bm:Below wr.heap.size wr (wr.alloc (.map #[] 0)):=(Below.refl _ _).alloc (Nat.le_refl _) _
   have hM:∀ X,Memo (wr.alloc (.map #[] 0)) wr.heap.size x.nd x.l X:=fun X=>⟨#[],0,heap_alloc_new _ _,fun e he=>by simp at he⟩
   have hz:(wr.alloc (.map #[] 0)).heap.size=wr.heap.size + 1:=World.size_alloc _ _
   have HZ:=Lib.hid hz
   clear hz
   obtain ⟨wm,hwm⟩:∃ wm:World,wm=wr.alloc (.map #[] 0):=⟨_,rfl⟩
   rw [←hwm] at bm hM HZ
   have hPm:=hPr.below bm
   have hSm:=hSr.below bm
   have hbm:=bel hbw bm
   have hs9:=hbw.size
   go_wp2_with fail
   rw [←hwm,←HZ.out]
   go_ret2
   clear hwm hmm
   have b9:Below wm.heap.size wm (wm.alloc (.cells #[.int .i64 x.nd,.slice x.A x.n x.c,.int .i64 x.s.day,.int .i64 x.s.depot,.int .i64 x.s.start,.int .i64 x.s.end_,.int .i64 x.s.tare,.slice x.s.A x.s.n x.s.c,.slice x.B x.m x.d,.slice V vn vc,.map (some wr.heap.size)] 213)):=(Below.refl _ _).alloc (Nat.le_refl _) _
   refine ⟨.inr ⟨wm.heap.size,wr.heap.size,rfl,by rw [HZ.out];omega,hs9,fun X=>?_⟩,bel hbm b9⟩
   exact ⟨(hx.below (bel hbm b9)),hV.below (bel hbm b9),heap_alloc_new _ _,(hM X).below b9,HN.out,hvc⟩
namespace K
def part:List Int→Nat→List Int
 | [],_=>[]
 | i :: r,m=>if m.testBit 0=true then i :: part r (m / 2) else part r (m / 2)
theorem part_snoc (i:Int):∀ (l:List Int) (m:Nat),part (l ++ [i]) m=part l m ++ if m.testBit l.length=true then [i] else []
 | [],m=>by simp [part]
 | j :: r,m=>by
  have ih:=part_snoc i r (m / 2)
  have hb:m.testBit (r.length + 1)=(m / 2).testBit r.length:=Nat.testBit_succ _ _
  simp only [List.cons_append,part,List.length_cons,ih,hb]
  split <;> simp
theorem part_len:∀ (l:List Int) (m:Nat),(part l m).length≤l.length
 | [],_=>Nat.le_refl _
 | j :: r,m=>by
  have ih:=part_len r (m / 2)
  simp only [part,List.length_cons]
  split <;> simp <;> omega
theorem part_sub:∀ (l:List Int) (m:Nat),(part l m).Sublist l
 | [],_=>List.Sublist.refl _
 | j :: r,m=>by
  have ih:=part_sub r (m / 2)
  simp only [part]
  split
  ·exact ih.cons_cons _
  ·exact ih.cons _
end K
theorem bit_at_all:∀ m:Fin 256,∀ k:Fin 8,bits .and .i64 ((m.val:Int) / 2 ^ k.val) 1=if m.val.testBit k.val=true then 1 else 0:=by decide +kernel
theorem bit_not_all:∀ m:Fin 64,∀ k:Fin 6,m.val.testBit k.val=true→bits .andNot .i64 (m.val:Int) (2 ^ k.val)=((m.val - 2 ^ k.val:Nat):Int):=by decide +kernel
theorem bit_or_all:∀ m:Fin 64,∀ k:Fin 6,m.val.testBit k.val=false→bits .or .i64 (m.val:Int) (2 ^ k.val)=((m.val + 2 ^ k.val:Nat):Int):=by decide +kernel
theorem bit_at {m k:Nat} (hm:m < 256) (hk:k < 8):bits .and .i64 ((m:Int) / 2 ^ k) 1=if m.testBit k=true then 1 else 0:=bit_at_all ⟨m,hm⟩ ⟨k,hk⟩
theorem bit_not {m k:Nat} (hm:m < 64) (hk:k < 6) (h:m.testBit k=true):bits .andNot .i64 (m:Int) (2 ^ k)=((m - 2 ^ k:Nat):Int):=bit_not_all ⟨m,hm⟩ ⟨k,hk⟩ h
theorem bit_or {m k:Nat} (hm:m < 64) (hk:k < 6) (h:m.testBit k=false):bits .or .i64 (m:Int) (2 ^ k)=((m + 2 ^ k:Nat):Int):=bit_or_all ⟨m,hm⟩ ⟨k,hk⟩ h
set_option maxRecDepth 100000 in
set_option maxHeartbeats 8000000 in
theorem part_any (b mb:Nat) (p:PS) (m:Nat) (w:World) {X:Nat→Prop} (hp:PAt w b mb p X) (hm:m < 256) :
  Calls Tryz.prog 191 #[.pointer (some ⟨b,0,none⟩),.int .i64 m] w fun e w'=>RetInts w w' (K.part p.l m) e:=by
 obtain ⟨c0,c1,c2,c3,c4,c5,c6,c7,c8,c9,c10⟩:=hp.blk.cells
 obtain ⟨hne,hck,hdp,hrq,hl6,hgo⟩:=K.ok31_parts hp.ok
 have hset:=hp.set
 have HLN:=Lib.hid hset.1
 have hn6:p.n≤6:=by rw [hset.1];exact hl6
 clear hne hck hdp hrq hl6 hgo
 go_enter Tryz.func191,Tryz.ntmps191
 go_wp2_with fail
 go_loopw [5,13] (fun v5 v13 wr=>∃ (k:Nat),v13=.int .i64 k∧k≤p.n∧wr.ownsRow w.heap.size 3 1 v5 (K.part (p.l.take k) m).length (intCells (K.part (p.l.take k) m))∧Below w.heap.size w wr) (fun _ v13 _=>p.n - (intOf v13).toNat)
 case atStart=>exact ⟨0,rfl,by omega,World.ownsRow_nil _ _ _ _,Below.refl _ _⟩
 case round =>
  clear c0 c1 c2 c3 c4 c5 c6 c7 c8 c9 c10
  obtain ⟨k,rfl,hk,hown,hbr⟩:=hrel
  by_cases hlt:k < p.n
  ·obtain ⟨adv,i,hA,hi,ci⟩:=(hset.below hbr).at_ hlt
   have k0:(0:Int)≤(k:Int):=by omega
   have k1:(k:Int) < (p.n:Int):=by omega
   have HT:=Lib.hid (take_snoc hi)
   have HTL:=Lib.hid (show (p.l.take k).length=k by rw [List.length_take,←HLN.out];omega)
   have hpl:(K.part (p.l.take k) m).length≤6:=by have:=K.part_len (p.l.take k) m;rw [HTL.out] at this;omega
   clear hi
   cases hbit:m.testBit k
   ·have hb1:bits BinOp.and IntKind.i64 ((m:Int) / 2 ^ k) 1=0:=by rw [bit_at hm (by omega),hbit];rfl
    have HN:=Lib.hid (show K.part (p.l.take (k + 1)) m=K.part (p.l.take k) m by rw [HT.out,K.part_snoc,HTL.out,hbit];simp)
    clear hbit
    rw [hA]
    go_wp2_with fail
    go_roundw
    case rel=>exact ⟨k + 1,by go_num,by omega,by rw [HN.out];exact hown,hbr⟩
    case measure=>simp [intOf];omega
   ·have hb1:bits BinOp.and IntKind.i64 ((m:Int) / 2 ^ k) 1=1:=by rw [bit_at hm (by omega),hbit];rfl
    have HN:=Lib.hid (show K.part (p.l.take (k + 1)) m=K.part (p.l.take k) m ++ [i] by rw [HT.out,K.part_snoc,HTL.out,hbit];simp)
    have ha:Below wr.heap.size wr (wr.alloc (.cells #[.int .i64 i] 3)):=(Below.refl _ _).alloc (Nat.le_refl _) _
    have hown2:=own_below hown ha
    have hs2:w.heap.size≤(wr.alloc (.cells #[.int .i64 i] 3)).heap.size:=Nat.le_trans hbr.size ha.size
    clear hbit
    rw [hA]
    go_wp2_with (at_builtin;refine app_int rfl (.tmp 23) (.tmp 25) rfl w.heap.size u5 (K.part (p.l.take k) m).length (K.part (p.l.take k) m) rfl hown2 wr.heap.size i rfl (heap_alloc_at _ _ _ rfl) (by omega) hs2 ?_;intro tv' w6 hown6 hgrow6 hat6)
    have b6:=below_own2 (bel hbr ha) hgrow6 (fun g e=>(hown.lt g e).1)
    have HS:=Lib.hid (show (K.part (p.l.take k) m).length + 1=(K.part (p.l.take (k + 1)) m).length by rw [HN.out,List.length_append];rfl)
    rw [←HN.out,HS.out] at hown6
    clear hgrow6 hat6 hown2 hown
    go_roundw
    case rel=>exact ⟨k + 1,by go_num,by omega,hown6,b6⟩
    case measure=>simp [intOf];omega
  ·have HN:=Lib.hid (show p.l.take k=p.l by exact List.take_of_length_le (by rw [←HLN.out];omega))
   rw [HN.out] at hown
   obtain ⟨A9,c9,rfl,hI⟩:=own_ints hown rfl
   go_wp2_with fail
   go_ret
   exact ⟨⟨_,_,_,rfl,hI⟩,hbr⟩
theorem blk_free {w:World} {g:Nat} {cs:Array Value} {t:TypeId} (h:w.heap[g]? = some (.cells cs t (0,0))) (i:Nat):w.frozen? ⟨g,i,none⟩=false:=by simp [World.frozen?,h]
theorem Ints.take {w:World} {A:Option Addr} {n:Nat} {l:List Int} (h:Ints w A n l) {k:Nat} (hk:k≤n):Ints w A k (l.take k):=by
 refine ⟨by rw [List.length_take,←h.1];omega,by simp [intCells];have:=h.1;omega,fun h0=>?_⟩
 obtain ⟨ad,e,hc⟩:=h.2.2 (by omega)
 refine ⟨ad,e,fun j u hu=>hc j u ?_⟩
 rw [intCells,List.map_take,List.getElem?_take] at hu
 split at hu
 ·exact hu
 ·cases hu
theorem wf_small {k:Int} (h0:-4000000000≤k) (h1:k≤4000000000):(Lit.int .i64 k).wf=true:=by
 have e1:IntKind.i64.min=-9223372036854775808:=by decide
 have e2:IntKind.i64.max=9223372036854775807:=by decide
 simp only [Lit.wf,decide_eq_true_eq,Bool.and_eq_true]
 omega
theorem K.netErr_le {nd:Int} {l:List Ro} (h:K.netErr nd l=0):0≤nd∧nd≤100:=by
 unfold K.netErr at h
 cases hb:T.btw nd 0 100
 ·rw [if_pos hb] at h;cases h
 ·simpa [T.btw] using hb
def LP (w:World) (b mb:Nat) (p:PS) (w':World):Prop:=Below w.heap.size w w'∧w'.cell? ⟨b,0,none⟩=some (.int .i64 p.x.nd)∧w'.cell? ⟨b,1,none⟩=some (.slice p.x.A p.x.n p.x.c)∧w'.cell? ⟨b,2,none⟩=some (.int .i64 p.x.s.day)∧w'.cell? ⟨b,3,none⟩=some (.int .i64 p.x.s.depot)∧w'.cell? ⟨b,4,none⟩=some (.int .i64 p.x.s.start) ∧
  w'.cell? ⟨b,5,none⟩=some (.int .i64 p.x.s.end_)∧w'.cell? ⟨b,6,none⟩=some (.int .i64 p.x.s.tare)∧w'.cell? ⟨b,7,none⟩=some (.slice p.x.s.A p.x.s.n p.x.s.c)∧w'.cell? ⟨b,8,none⟩=some (.slice p.x.B p.x.m p.x.d)∧w'.cell? ⟨b,9,none⟩=some (.slice p.A p.n p.c)∧w'.cell? ⟨b,10,none⟩=some (.map (some mb))
theorem LP.mk' {w:World} {b mb:Nat} {p:PS} (hp:PBlk w b mb p) {w':World} (hb:Below w.heap.size w w'):LP w b mb p w':=⟨hb,PBlk.cells (w:=w') (blk_below hb hp)⟩
def LQ (w:World) (b mb g:Nat) (fr wt:Int) (p:PS) (w':World):Prop:=Below w.heap.size w w'∧w'.cell? ⟨g,0,none⟩=some (.int .i64 fr)∧w'.cell? ⟨g,1,none⟩=some (.int .i64 wt)∧w'.cell? ⟨b,0,none⟩=some (.int .i64 p.x.nd)∧w'.cell? ⟨b,1,none⟩=some (.slice p.x.A p.x.n p.x.c)∧w'.cell? ⟨b,2,none⟩=some (.int .i64 p.x.s.day)∧w'.cell? ⟨b,3,none⟩=some (.int .i64 p.x.s.depot)∧w'.cell? ⟨b,4,none⟩=some (.int .i64 p.x.s.start) ∧
  w'.cell? ⟨b,5,none⟩=some (.int .i64 p.x.s.end_)∧w'.cell? ⟨b,6,none⟩=some (.int .i64 p.x.s.tare)∧w'.cell? ⟨b,7,none⟩=some (.slice p.x.s.A p.x.s.n p.x.s.c)∧w'.cell? ⟨b,8,none⟩=some (.slice p.x.B p.x.m p.x.d)∧w'.cell? ⟨b,9,none⟩=some (.slice p.A p.n p.c)∧w'.cell? ⟨b,10,none⟩=some (.map (some mb))
def TripBlk (w:World) (g:Nat) (fr wt:Int):Prop:=w.heap[g]? = some (.cells #[.int .i64 fr,.int .i64 wt] 224 (0,0))
theorem LQ.mk' {w:World} {b mb g:Nat} {fr wt:Int} {p:PS} (hp:PBlk w b mb p) (hT:TripBlk w g fr wt) {w':World} (hb:Below w.heap.size w w'):LQ w b mb g fr wt p w' :=
 ⟨hb,blk_cell (blk_below hb hT) 0 _ rfl,blk_cell (blk_below hb hT) 1 _ rfl,PBlk.cells (w:=w') (blk_below hb hp)⟩
def RetWay (w w':World) (b mb:Nat) (p:PS) (X:Nat→Prop) (y:Int) (e:Ending):Prop:=e=.returned (.tuple #[.int .i64 y,.bool (y != -1)])∧Went w w' b mb p X
set_option maxRecDepth 100000 in
set_option maxHeartbeats 16000000 in
theorem way_any (b mb:Nat) (p:PS) (fr:Int) (tn m:Nat) (w:World) {X:Nat→Prop} (hp:PAt w b mb p X) (hX:∀ g,X g→g < w.heap.size) (hm:m < 256) (hfr:0≤fr∧fr < p.x.nd) (hto:(tn:Int) < p.x.nd) (hwt:(Lit.int .i64 (T.weight p.x.s p.x.r (K.part p.l m))).wf=true) :
  Calls Tryz.prog 141 #[.pointer (some ⟨b,0,none⟩),.int .i64 fr,.int .i64 tn,.int .i64 m] w fun e w'=>RetWay w w' b mb p X (K.way p.x.nd p.x.l fr (T.weight p.x.s p.x.r (K.part p.l m)) tn) e:=by
 obtain ⟨hne,hck,hdp,hrq,hl6,-⟩:=K.ok31_parts hp.ok
 have hpl:(K.part p.l m).length≤6:=Nat.le_trans (K.part_len _ _) hl6
 have S0:=LP.mk' hp.blk (Below.refl w.heap.size w)
 have hPx:∀ w',LP w b mb p w'→PAt w' b mb p X:=fun w' h=>hp.below h.1
 have hSn:∀ w' w'',LP w b mb p w'→Below w'.heap.size w' w''→LP w b mb p w'':=fun w' w'' h hb'=>LP.mk' hp.blk (bel h.1 hb')
 have hSd:∀ w',LP w b mb p w'→LP w b mb p w'.drew:=fun w' h=>LP.mk' hp.blk h.1.drew
 have hSa:∀ w' o',LP w b mb p w'→LP w b mb p (w'.alloc o'):=fun w' o' h=>LP.mk' hp.blk (bel h.1 ((Below.refl _ _).alloc (Nat.le_refl _) _))
 have hSs:∀ (w':World) (g i:Nat) (v:Value),LP w b mb p w'→w.heap.size≤g→LP w b mb p (w'.setCell ⟨g,i,none⟩ v):=fun w' g i v h hg=>LP.mk' hp.blk (h.1.setCell hg _)
 obtain ⟨c1,c2,c3,c4⟩:p.x.n≤1000000000∧p.x.s.n≤1000000000∧p.x.m≤1000000000∧∀ q ∈ p.x.r,q.n≤1000000000:=⟨hp.at_.b1,hp.at_.b2,hp.at_.b3,hp.at_.b4⟩
 obtain ⟨wt,hwtE⟩:∃ wt,wt=T.weight p.x.s p.x.r (K.part p.l m):=⟨_,rfl⟩
 rw [←hwtE] at hwt ⊢
 have HWT:=Lib.hid hwtE
 clear hck hdp hrq hl6 hwtE
 go_enter Tryz.func141,Tryz.ntmps141
 go_wp2_with fail
 go_cut [10] from 13 to 26 (fun v10 wc=>∃ g,v10=.pointer (some ⟨g,0,none⟩)∧w.heap.size≤g∧TripBlk wc g fr wt∧Below w.heap.size w wc)
 case first =>
  go_region_held3 (fun w'=>Below w.heap.size w w'∧w'.cell? ⟨b,0,none⟩=some (.int .i64 p.x.nd)∧w'.cell? ⟨b,1,none⟩=some (.slice p.x.A p.x.n p.x.c)∧w'.cell? ⟨b,2,none⟩=some (.int .i64 p.x.s.day)∧w'.cell? ⟨b,3,none⟩=some (.int .i64 p.x.s.depot)∧w'.cell? ⟨b,4,none⟩=some (.int .i64 p.x.s.start) ∧
  w'.cell? ⟨b,5,none⟩=some (.int .i64 p.x.s.end_)∧w'.cell? ⟨b,6,none⟩=some (.int .i64 p.x.s.tare)∧w'.cell? ⟨b,7,none⟩=some (.slice p.x.s.A p.x.s.n p.x.s.c)∧w'.cell? ⟨b,8,none⟩=some (.slice p.x.B p.x.m p.x.d)∧w'.cell? ⟨b,9,none⟩=some (.slice p.A p.n p.c)∧w'.cell? ⟨b,10,none⟩=some (.map (some mb)))
   (first | assumption | exact S0 | exact hSd _ (by assumption) | exact hSa _ _ (by assumption) | exact hSa _ _ (hSd _ S0) | exact hSs _ _ _ _ (hSs _ _ _ _ (by assumption) (by first | omega | exact hS1.1.size | exact hS2.1.size)) (by first | omega | exact hS1.1.size | exact hS2.1.size))
   (first
    | (go_at_call 191;refine (part_any b mb p m _ (hPx _ ?_) hm).mono ?_;assumption;rintro e w3 ⟨⟨A9,n9,c9,rfl,hI⟩,hbn⟩;have hS1:=hSn _ _ (by assumption) hbn;
        (first | (have hT1:=blk_below hbn (heap_alloc_new _ (.cells #[.int .i64 0,.int .i64 0] 224))) | skip))
    | (go_at_call 190;refine (weight_any p.x.s p.x.B p.x.m p.x.d p.x.r A9 n9 c9 (K.part p.l m) _ (hPx _ ?_).at_.rooms c2 (hPx _ ?_).at_.reqs c3 c4 ?_ (by rw [hI.1];omega)).mono ?_;assumption;assumption;(first | exact hI | exact hI.below ((Below.refl _ _).alloc (Nat.le_refl _) _));rw [←HWT.out];rintro e w4 ⟨rfl,hbn2⟩;have hS2:=hSn _ _ (by assumption) hbn2;
        (first | (have hT2:=blk_below hbn2 hT1) | (have hT2:=blk_below hbn2 (heap_alloc_new _ (.cells #[.int .i64 0,.int .i64 0] 224))) | skip);
        (first | (have hu0:=blk_cell hT2 0 _ rfl;have hu1:=blk_cell hT2 1 _ rfl;have huf:=blk_free hT2) | skip)))
  ·go_wp2_with fail
   go_meet
   case rel=>exact ⟨_,rfl,hS2.1.size,heap_alloc_new _ _,bel hS2.1 ((Below.refl _ _).alloc (Nat.le_refl _) _)⟩
  ·have hg:_:=hS1.1.size
   go_wp2_with fail
   go_meet
   case rel=>exact ⟨_,rfl,hg,blk_set (blk_set hT2 0 _) 1 _,(hS2.1.setCell hg _).setCell hg _⟩
  ·have hg:_:=Nat.le_refl w.heap.size
   go_wp2_with fail
   go_meet
   case rel=>exact ⟨_,rfl,hg,blk_set (blk_set hT2 0 _) 1 _,(hS2.1.setCell hg _).setCell hg _⟩
 case rest =>
  obtain ⟨g,rfl,hg,hT,hb⟩:=hcut
  have hpc:=hp.below hb
  clear S0 hPx hSn hSd hSa hSs
  have hfw:(Lit.int .i64 fr).wf=true:=by
   have h1:=K.netErr_le hne
   exact wf_small (by omega) (by omega)
  have S0:=LQ.mk' hpc.blk hT (Below.refl wc.heap.size wc)
  have hPx:∀ w',LQ wc b mb g fr wt p w'→PAt w' b mb p X:=fun w' h=>hpc.below h.1
  have hSn:∀ w' w'',LQ wc b mb g fr wt p w'→Below w'.heap.size w' w''→LQ wc b mb g fr wt p w'':=fun w' w'' h hb'=>LQ.mk' hpc.blk hT (bel h.1 hb')
  have hSd:∀ w',LQ wc b mb g fr wt p w'→LQ wc b mb g fr wt p w'.drew:=fun w' h=>LQ.mk' hpc.blk hT h.1.drew
  obtain ⟨A1,n1,c1,ok,hlook,hI1⟩:=(hpc.memo.below (w':=wc.drew) (Below.refl _ _).drew).look hfw hwt
  go_wp2_with fail
  go_region_held3 (fun w'=>Below wc.heap.size wc w'∧w'.cell? ⟨g,0,none⟩=some (.int .i64 fr)∧w'.cell? ⟨g,1,none⟩=some (.int .i64 wt)∧w'.cell? ⟨b,0,none⟩=some (.int .i64 p.x.nd)∧w'.cell? ⟨b,1,none⟩=some (.slice p.x.A p.x.n p.x.c)∧w'.cell? ⟨b,2,none⟩=some (.int .i64 p.x.s.day)∧w'.cell? ⟨b,3,none⟩=some (.int .i64 p.x.s.depot)∧w'.cell? ⟨b,4,none⟩=some (.int .i64 p.x.s.start) ∧
  w'.cell? ⟨b,5,none⟩=some (.int .i64 p.x.s.end_)∧w'.cell? ⟨b,6,none⟩=some (.int .i64 p.x.s.tare)∧w'.cell? ⟨b,7,none⟩=some (.slice p.x.s.A p.x.s.n p.x.s.c)∧w'.cell? ⟨b,8,none⟩=some (.slice p.x.B p.x.m p.x.d)∧w'.cell? ⟨b,9,none⟩=some (.slice p.A p.n p.c)∧w'.cell? ⟨b,10,none⟩=some (.map (some mb)))
   (first | assumption | exact S0 | exact hSd _ (by assumption) | exact hSn _ _ (by assumption) (by assumption))
   (fail)
  have hnd:=K.netErr_le hne
  have hlen:=K.times_len (k:=wt) hne hfr
  have hTT:p.x.nd.toNat=(K.times p.x.nd p.x.l fr wt).length:=hlen.symm
  have HLEN:=Lib.hid hTT
  clear S0 hSn hSd hlook hlen hTT
  have hfin:∀ (wf:World) (A:Option Addr) (n:Nat),Ints wf A n (K.times p.x.nd p.x.l fr wt)→∃ ad y,A=some ad∧K.way p.x.nd p.x.l fr wt tn=y∧wf.cell? (ad.add tn)=some (.int .i64 y)∧(tn:Int) < (n:Int):=fun wf A n hI=>by
   have htn:tn < n:=by rw [hI.1,←HLEN.out];omega
   obtain ⟨ad,y,hA,hy,cy⟩:=hI.at_ htn
   exact ⟨ad,y,hA,by unfold K.way;rw [G.at_get hy],cy,by omega⟩
  have k0:(0:Int)≤(tn:Int):=by omega
  cases ok
  ·clear hI1
   obtain ⟨wd,hwd⟩:∃ wd,wd=wc.drew:=⟨_,rfl⟩
   have hbd:Below wc.heap.size wc wd:=by rw [hwd];exact (Below.refl _ _).drew
   rw [←hwd]
   clear hwd
   have hb:=bel hb hbd
   have hpc:=hpc.below hbd
   have hT:TripBlk wd g fr wt:=blk_below hbd hT
   have S0:=LQ.mk' hpc.blk hT (Below.refl wd.heap.size wd)
   have hPx:∀ w',LQ wd b mb g fr wt p w'→PAt w' b mb p X:=fun w' h=>hpc.below h.1
   have hSn:∀ w' w'',LQ wd b mb g fr wt p w'→Below w'.heap.size w' w''→LQ wd b mb g fr wt p w'':=fun w' w'' h hb'=>LQ.mk' hpc.blk hT (bel h.1 hb')
   have hSd:∀ w',LQ wd b mb g fr wt p w'→LQ wd b mb g fr wt p w'.drew:=fun w' h=>LQ.mk' hpc.blk hT h.1.drew
   go_wp2_with fail
   go_region_held3 (fun w'=>Below wd.heap.size wd w'∧w'.cell? ⟨g,0,none⟩=some (.int .i64 fr)∧w'.cell? ⟨g,1,none⟩=some (.int .i64 wt)∧w'.cell? ⟨b,0,none⟩=some (.int .i64 p.x.nd)∧w'.cell? ⟨b,1,none⟩=some (.slice p.x.A p.x.n p.x.c)∧w'.cell? ⟨b,2,none⟩=some (.int .i64 p.x.s.day)∧w'.cell? ⟨b,3,none⟩=some (.int .i64 p.x.s.depot)∧w'.cell? ⟨b,4,none⟩=some (.int .i64 p.x.s.start) ∧
  w'.cell? ⟨b,5,none⟩=some (.int .i64 p.x.s.end_)∧w'.cell? ⟨b,6,none⟩=some (.int .i64 p.x.s.tare)∧w'.cell? ⟨b,7,none⟩=some (.slice p.x.s.A p.x.s.n p.x.s.c)∧w'.cell? ⟨b,8,none⟩=some (.slice p.x.B p.x.m p.x.d)∧w'.cell? ⟨b,9,none⟩=some (.slice p.A p.n p.c)∧w'.cell? ⟨b,10,none⟩=some (.map (some mb)))
    (first | assumption | exact S0 | exact hSd _ (by assumption) | exact hSn _ _ (by assumption) (by assumption))
    (first
     | (go_at_call 192;refine (times_new p.x.nd p.x.A p.x.n p.x.c p.x.l fr wt _ (hPx _ ?_).at_.net hpc.at_.b1).mono ?_;assumption;rintro e w5 ⟨⟨A5,n5,c5,rfl,hI5,hA5⟩,hbn⟩;have hS5:=hSn _ _ (by assumption) hbn)
     | fail)
   have hp5:=hPx _ hS5
   have b5:=bel hb hS5.1
   have hT5:TripBlk w5 g fr wt:=blk_below hS5.1 hT
   have HSZ:=Lib.hid hb.size
   clear S0 hPx hSn hSd hbn hS5 hpc hb hbd hT
   have hI5d:=hI5.below (w':=w5.drew) (Below.refl _ _).drew
   obtain ⟨w6,hupd,hM6,hg6⟩:=(hp5.memo.below (w':=w5.drew) (Below.refl _ _).drew).store hfw hwt hI5d (fun ad e=>⟨(hA5 ad e).2,fun hx=>by have h1:=hX _ hx;have h2:wd.heap.size≤ad.block:=(hA5 ad e).1;have h3:=HSZ.out;omega⟩) (c:=c5)
   have hx6:=(hp5.memo.below (w':=w5.drew) (Below.refl _ _).drew).ext hg6
   have hp6:=(hp5.below (w':=w5.drew) (Below.refl _ _).drew).keep hx6 hM6
   have hT6:TripBlk w6 g fr wt:=hx6.cells _ _ _ _ (blk_below (w':=w5.drew) (Below.refl _ _).drew hT5)
   have hI6:=hI5d.ext hx6
   have hS:∀ w',PBlk w' b mb p→TripBlk w' g fr wt→(fun w'=>w'.cell? ⟨g,0,none⟩=some (.int .i64 fr)∧w'.cell? ⟨g,1,none⟩=some (.int .i64 wt)∧w'.cell? ⟨b,0,none⟩=some (.int .i64 p.x.nd)∧w'.cell? ⟨b,1,none⟩=some (.slice p.x.A p.x.n p.x.c)∧w'.cell? ⟨b,2,none⟩=some (.int .i64 p.x.s.day)∧w'.cell? ⟨b,3,none⟩=some (.int .i64 p.x.s.depot)∧w'.cell? ⟨b,4,none⟩=some (.int .i64 p.x.s.start) ∧
  w'.cell? ⟨b,5,none⟩=some (.int .i64 p.x.s.end_)∧w'.cell? ⟨b,6,none⟩=some (.int .i64 p.x.s.tare)∧w'.cell? ⟨b,7,none⟩=some (.slice p.x.s.A p.x.s.n p.x.s.c)∧w'.cell? ⟨b,8,none⟩=some (.slice p.x.B p.x.m p.x.d)∧w'.cell? ⟨b,9,none⟩=some (.slice p.A p.n p.c)∧w'.cell? ⟨b,10,none⟩=some (.map (some mb))) w':=fun w' h1 h2=>⟨blk_cell h2 0 _ rfl,blk_cell h2 1 _ rfl,h1.cells⟩
   have S5:=hS _ hp5.blk hT5
   have S5d:=hS _ (hp5.below (w':=w5.drew) (Below.refl _ _).drew).blk (blk_below (w':=w5.drew) (Below.refl _ _).drew hT5)
   have S6:=hS _ hp6.blk hT6
   go_wp2_with fail
   go_region_held3 (fun w'=>w'.cell? ⟨g,0,none⟩=some (.int .i64 fr)∧w'.cell? ⟨g,1,none⟩=some (.int .i64 wt)∧w'.cell? ⟨b,0,none⟩=some (.int .i64 p.x.nd)∧w'.cell? ⟨b,1,none⟩=some (.slice p.x.A p.x.n p.x.c)∧w'.cell? ⟨b,2,none⟩=some (.int .i64 p.x.s.day)∧w'.cell? ⟨b,3,none⟩=some (.int .i64 p.x.s.depot)∧w'.cell? ⟨b,4,none⟩=some (.int .i64 p.x.s.start) ∧
  w'.cell? ⟨b,5,none⟩=some (.int .i64 p.x.s.end_)∧w'.cell? ⟨b,6,none⟩=some (.int .i64 p.x.s.tare)∧w'.cell? ⟨b,7,none⟩=some (.slice p.x.s.A p.x.s.n p.x.s.c)∧w'.cell? ⟨b,8,none⟩=some (.slice p.x.B p.x.m p.x.d)∧w'.cell? ⟨b,9,none⟩=some (.slice p.A p.n p.c)∧w'.cell? ⟨b,10,none⟩=some (.map (some mb)))
    (first | assumption | exact S5 | exact S5d | exact S6)
    (fail)
   have hW:Went w w6 b mb p X:=⟨grow_step (grow_below (grow_refl w _) (bel b5 (w2:=w5.drew) (Below.refl _ _).drew)) hg6 (.inl rfl),hp6⟩
   obtain ⟨ad,y,rfl,hy,cy,k1⟩:=hfin w6 A5 n5 hI6
   have HY:=Lib.hid hy
   clear hy hfin hI5 hI5d hI6 S5 S5d S6 hS hupd hx6 hg6
   go_wp2_with fail
   go_quiet (fail)
   go_wp2_with fail
   go_ret2
   rw [HY.out]
   exact ⟨rfl,hW.below (below_drewN (Below.refl _ _) _)⟩
  ·have hI:=hI1 rfl
   clear hI1
   obtain ⟨wd,hwd⟩:∃ wd,wd=wc.drew:=⟨_,rfl⟩
   have hbd:Below wc.heap.size wc wd:=by rw [hwd];exact (Below.refl _ _).drew
   rw [←hwd] at hI ⊢
   clear hwd
   obtain ⟨ad,y,rfl,hy,cy,k1⟩:=hfin wd A1 n1 hI
   have HY:=Lib.hid hy
   have hW:=went_below hp (bel hb hbd)
   clear hy hfin hI hPx hT
   go_wp2_with fail
   go_quiet (fail)
   go_wp2_with fail
   go_ret2
   rw [HY.out]
   exact ⟨rfl,hW.below (below_drewN (Below.refl _ _) _)⟩
end Go.Proofs.YtippdjmpkafifaaGreat
