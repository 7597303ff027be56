import Derived.Below
import Derived.Laws.OwnMore
import Derived.Deep.AppendLies
import Derived.Deep.Draws
import Derived.Lib.Hide
import Derived.WalkKit
import Derived.WalkSpells
import Derived.WalkLawsBesides
import Derived.Maps.AppendAt
import Derived.BigQuiet
import Derived.Test.YtippdjmpkafifaaGreatRows
import Derived.Deep.QuietTactic
import Derived.StillTailTactics
import Derived.BigRegion
import Derived.RegionTactic
import Derived.Deep.DeepCutAuto
namespace Go.Proofs.YtippdjmpkafifaaGreat
open Go.RowKit
theorem bel {w w1 w2:World} (a:Below w.heap.size w w1) (b:Below w1.heap.size w1 w2):Below w.heap.size w w2:=a.trans (b.mono a.size)
theorem cell_lt {w:World} {p:Addr} {v:Value} (h:w.cell? p=some v):p.block < w.heap.size:=by
 unfold World.cell? at h
 by_cases hb:p.block < w.heap.size
 ·exact hb
 ·rw [Array.getElem?_eq_none (by omega)] at h
  simp at h
theorem add_block (a:Addr) (n:Nat):(a.add n).block=a.block:=by unfold Addr.add;split <;> rfl
theorem add_add (a:Addr) (i j:Nat):(a.add i).add j=a.add (i + j):=by
 unfold Addr.add
 by_cases hi:i=0 <;> by_cases hj:j=0 <;> simp [hi,hj,Nat.add_assoc]
theorem add_next (a:Addr) (i j:Nat) (hj:0 < j):a.add (i + j)=⟨(a.add i).block,(a.add i).off + j,none⟩:=by
 unfold Addr.add
 rw [if_neg (by omega)]
 by_cases hi:i=0 <;> simp [hi,Nat.add_assoc]
def Rd (w:World) (size:Nat) (A:Option Addr) (n:Nat) (xs:List Value):Prop :=
 xs.length=n * size∧(0 < n→∃ ad,A=some ad∧∀ j u,xs[j]? = some u→w.cell? (ad.add j)=some u)
theorem Rd.below {w w':World} {size n:Nat} {A:Option Addr} {xs:List Value} (h:Rd w size A n xs) (hb:Below w.heap.size w w'):Rd w' size A n xs :=
 ⟨h.1,fun hn=>by
  obtain ⟨ad,e,hc⟩:=h.2 hn
  exact ⟨ad,e,fun j u hu=>(hb.cell (cell_lt (hc j u hu))).trans (hc j u hu)⟩⟩
theorem Rd.at_ {w:World} {size n k:Nat} {A:Option Addr} {xs:List Value} (h:Rd w size A n xs) (hk:k < n) :
  ∃ ad,A=some ad∧∀ j,j < size→∃ u,xs[k * size + j]? = some u∧w.cell? (ad.add (k * size + j))=some u:=by
 obtain ⟨ad,e,hc⟩:=h.2 (by omega)
 refine ⟨ad,e,fun j hj=>?_⟩
 have hl:k * size + j < xs.length:=by
  rw [h.1]
  have:(k + 1) * size≤n * size:=Nat.mul_le_mul_right _ hk
  rw [Nat.add_mul] at this
  omega
 exact ⟨xs[k * size + j],List.getElem?_eq_getElem hl,hc _ _ (List.getElem?_eq_getElem hl)⟩
theorem add_zero_block (g j:Nat):(⟨g,0,none⟩:Addr).add j=⟨g,j,none⟩:=by
 unfold Addr.add;split
 ·rename_i h;subst h;rfl
 ·simp
theorem Rd.of_block {w:World} {g:Nat} {cs:Array Value} {t:TypeId} (h:w.heap[g]? = some (.cells cs t (0,0))) (size n:Nat) (hn:cs.size=n * size):Rd w size (some ⟨g,0,none⟩) n cs.toList :=
 ⟨by simpa using hn,fun _=>⟨_,rfl,fun j u hu=>by
  rw [add_zero_block,cell_of_row w g j cs t (0,0) h]
  simpa using hu⟩⟩
theorem Rd.new (w:World) (cs:Array Value) (t:TypeId) (size n:Nat) (hn:cs.size=n * size):Rd (w.alloc (.cells cs t)) size (some ⟨w.heap.size,0,none⟩) n cs.toList :=
 Rd.of_block (heap_alloc_new w _) size n hn
theorem Rd.grown {w w':World} {size n:Nat} {A:Option Addr} {xs:List Value} {r:Option Nat} (h:Rd w size A n xs) (hg:w.grownBy w' r) (hA:∀ ad,A=some ad→some ad.block ≠ r):Rd w' size A n xs :=
 ⟨h.1,fun hn=>by
  obtain ⟨ad,e,hc⟩:=h.2 hn
  refine ⟨ad,e,fun j u hu=>?_⟩
  have h1:=hc j u hu
  have h2:=cell_lt h1
  rw [add_block] at h2
  exact (World.cell?_of_block (by rw [add_block];exact hg.block _ h2 (hA ad e))).trans h1⟩
theorem own_form {w:World} {base:Nat} {e:TypeId} {size n:Nat} {v:Value} {xs:List Value} (h:w.ownsRow base e size v n xs) :
  ∃ A c,v=.slice A n c∧Rd w size A n xs∧∀ g,v.ownBlock=some g→base≤g∧g < w.heap.size:=by
 obtain ⟨hl,⟨rfl,rfl⟩ | ⟨g,cap,cur,rfl,hb,hh,hnc,_,hsz,ht⟩⟩:=h
 ·exact ⟨none,0,rfl,⟨hl,fun h0=>absurd h0 (by omega)⟩,fun g h=>by cases h⟩
 ·refine ⟨_,cap,rfl,⟨hl,fun _=>⟨_,rfl,fun j u hu=>?_⟩⟩,fun g' h=>?_⟩
  ·rw [add_zero_block,cell_of_row w g j cur e (0,0) hh]
   rw [←ht] at hu
   rw [List.getElem?_take] at hu
   split at hu
   ·simpa using hu
   ·cases hu
  ·injection h with h
   subst h
   exact ⟨hb,(Array.getElem?_eq_some_iff.1 hh).1⟩
theorem grow_step {w3 wr w1:World} {r vb:Option Nat} (h:w3.grownBy wr r) (h1:wr.grownBy w1 vb) (hv:vb=r∨vb=none∨∃ g,vb=some g∧w3.heap.size≤g):w3.grownBy w1 r :=
 ⟨h1.os.trans h.os,h1.tape.trans h.tape,h1.output.trans h.output,Nat.le_trans h.size h1.size,fun k hk hne =>
  (h1.block k (Nat.lt_of_lt_of_le hk h.size) (by
   rcases hv with rfl | rfl | ⟨g,rfl,hg⟩
   ·exact hne
   ·simp
   ·intro e;injection e with e;omega)).trans (h.block k hk hne)⟩
theorem grow_refl (w:World) (r:Option Nat):w.grownBy w r:=World.grownBy.refl w r
theorem grow_below {w3 wr w1:World} {r:Option Nat} (h:w3.grownBy wr r) (hb:Below wr.heap.size wr w1):w3.grownBy w1 r :=
 ⟨hb.os.trans h.os,hb.tape.trans h.tape,hb.output.trans h.output,Nat.le_trans h.size hb.size,fun k hk hne=>(hb.block k (Nat.lt_of_lt_of_le hk h.size)).trans (h.block k hk hne)⟩
theorem grow_blk {w w':World} {r:Option Nat} {g:Nat} {o:Obj} (h:w.grownBy w' r) (hg:w.heap[g]? = some o) (hne:some g ≠ r):w'.heap[g]? = some o :=
 (h.block g (Array.getElem?_eq_some_iff.1 hg).1 hne).trans hg
theorem blk_below {w w':World} {g:Nat} {o:Obj} (h:Below w.heap.size w w') (hg:w.heap[g]? = some o):w'.heap[g]? = some o :=
 (h.block g (Array.getElem?_eq_some_iff.1 hg).1).trans hg
theorem blk_alloc {w:World} {g:Nat} {o:Obj} (hg:w.heap[g]? = some o) (o':Obj):(w.alloc o').heap[g]? = some o :=
 (Below.heap_alloc w o' g (Array.getElem?_eq_some_iff.1 hg).1).trans hg
theorem blk_cell {w:World} {g:Nat} {cs:Array Value} {t:TypeId} (h:w.heap[g]? = some (.cells cs t (0,0))) (i:Nat) (v:Value) (hv:cs[i]? = some v):w.cell? ⟨g,i,none⟩=some v :=
 (cell_of_row w g i cs t (0,0) h).trans hv
theorem below_own {B:Nat} {a w w':World} {v:Value} (h:Below B a w) (hs:B≤a.heap.size) (hg:w.grownBy w' v.ownBlock) (hv:∀ g,v.ownBlock=some g→B≤g):Below B a w' :=
 h.grown hg (Nat.le_trans hs h.size) (fun k e=>hv k e)
theorem own_below {w w':World} {base:Nat} {e:TypeId} {size n:Nat} {v:Value} {xs:List Value} (h:w.ownsRow base e size v n xs) (hb:Below w.heap.size w w'):w'.ownsRow base e size v n xs:=by
 obtain ⟨hl,h1 | ⟨g,cap,cur,hv,hbg,hh,r⟩⟩:=h
 ·exact ⟨hl,.inl h1⟩
 ·exact ⟨hl,.inr ⟨g,cap,cur,hv,hbg,blk_below hb hh,r⟩⟩
theorem below_own2 {B:Nat} {w2 w3 wr:World} {r:Option Nat} (h:Below B w2 w3) (hg:w3.grownBy wr r) (hr:∀ g,r=some g→B≤g) (hB:B≤w2.heap.size:=by exact Nat.le_refl _):Below B w2 wr :=
 h.grown hg (Nat.le_trans hB h.size) hr
theorem heap_alloc_at (w:World) (o:Obj) (g:Nat) (hg:g=w.heap.size):(w.alloc o).heap[g]? = some o:=by subst hg;exact heap_alloc_new w o
def intCells (l:List Int):List Value:=l.map (Value.int .i64)
def Ints (w:World) (A:Option Addr) (n:Nat) (l:List Int):Prop:=n=l.length∧Rd w 1 A n (intCells l)
theorem Ints.below {w w':World} {A:Option Addr} {n:Nat} {l:List Int} (h:Ints w A n l) (hb:Below w.heap.size w w'):Ints w' A n l:=⟨h.1,h.2.below hb⟩
theorem Ints.at_ {w:World} {A:Option Addr} {n k:Nat} {l:List Int} (h:Ints w A n l) (hk:k < n) :
  ∃ ad x,A=some ad∧l[k]? = some x∧w.cell? (ad.add k)=some (.int .i64 x):=by
 obtain ⟨e,hr⟩:=h
 obtain ⟨ad,hA,hc⟩:=hr.at_ hk
 have hl:l[k]? = some (l[k]'(by omega)):=List.getElem?_eq_getElem (by omega)
 obtain ⟨u0,a0,b0⟩:=hc 0 (by omega)
 rw [Nat.add_zero,Nat.mul_one] at a0 b0
 unfold intCells at a0
 rw [List.getElem?_map,hl] at a0
 simp at a0
 subst a0
 exact ⟨ad,_,hA,hl,b0⟩
theorem ret_i {x y:Int} (h:x=y):Ending.returned (.int .i64 x)=.returned (.int .i64 y):=by rw [h]
theorem intCells_one (l:List Int):∀ u ∈ intCells l,u.oneCell'=true:=by
 intro u hu
 obtain ⟨x,_,rfl⟩:=List.mem_map.1 hu
 rfl
theorem own_ints {w:World} {base:Nat} {v:Value} {n:Nat} {l:List Int} (h:w.ownsRow base 3 1 v n (intCells l)) (hn:n=l.length):∃ A c,v=.slice A n c∧Ints w A n l:=by
 obtain ⟨A,c,e,hr,_⟩:=own_form h
 exact ⟨A,c,e,hn,hr⟩
theorem drop_any {α:Type} {p:α→Bool} {l:List α} {k:Nat} {x:α} (h:l[k]? = some x):(l.drop k).any p=(p x || (l.drop (k + 1)).any p):=by
 obtain ⟨hk,e⟩:=List.getElem?_eq_some_iff.1 h
 rw [List.drop_eq_getElem_cons hk,e]
 rfl
theorem drop_all {α:Type} {p:α→Bool} {l:List α} {k:Nat} {x:α} (h:l[k]? = some x):(l.drop k).all p=(p x && (l.drop (k + 1)).all p):=by
 obtain ⟨hk,e⟩:=List.getElem?_eq_some_iff.1 h
 rw [List.drop_eq_getElem_cons hk,e]
 rfl
theorem take_snoc {α:Type} {l:List α} {k:Nat} {x:α} (h:l[k]? = some x):l.take (k + 1)=l.take k ++ [x]:=by
 obtain ⟨hk,e⟩:=List.getElem?_eq_some_iff.1 h
 rw [List.take_succ_eq_append_getElem hk,e]
theorem below_drewN {B:Nat} {a w:World} (h:Below B a w) (n:Nat):Below B a (w.drewN n):=⟨h.os,h.tape,h.output,h.size,h.block⟩
theorem ret_b {x y:Bool} (h:x=y):Ending.returned (.bool x)=.returned (.bool y):=by rw [h]
theorem ints_nil (w:World):Ints w none 0 []:=⟨rfl,rfl,fun h=>absurd h (by omega)⟩
theorem intCells_app (l m:List Int):intCells (l ++ m)=intCells l ++ intCells m:=by simp [intCells]
structure Beh (w:World) where
 val:World
 property:Below w.heap.size w val
instance (w:World):Nonempty (Beh w):=⟨⟨w,Below.refl _ _⟩⟩
theorem Beh.cell {w:World} {a:Addr} {v:Value} (h:w.cell? a=some v):∀ i:Beh w,i.val.cell? a=some v:=fun i=>(i.property.cell (cell_lt h)).trans h
theorem reg_beh {P:Program} {id:Nat} {Q:Exit→Act→World→Prop} {a:Act} {w:World} {l:List Oper} (hm:P.follows .mixedOrders=true) (hB:Region.lexB .any l.toArray=true)
  (h:wpQuiet P l.toArray (fun w'=>∃ i:Beh w,w'=i.val) (fun a'=>∀ w',(∃ i:Beh w,w'=i.val)→Q .normal a' w') l a):(Code.region id l.toArray true).wp P Q a w :=
 wp_region_quiet (C:=fun w'=>∃ i:Beh w,w'=i.val) hm hB ⟨⟨w.drew,(Below.refl _ _).drew⟩,rfl⟩ (by simpa using h)
theorem Beh.calls {P:Program} {f:FuncId} {args:Array Value} {w:World} {i:Beh w} {v:Value} (h:Calls P f args i.val fun e w'=>e=.returned v∧Below i.val.heap.size i.val w') :
  Calls P f args i.val fun e w''=>e=.returned v∧∃ j:Beh w,w''=j.val :=
 h.mono fun _ w' ⟨he,hb⟩=>⟨he,⟨w',bel i.property hb⟩,rfl⟩
theorem flat_len {α:Type} (f:α→List Value) (s:Nat) (hs:∀ x,(f x).length=s) (l:List α):(l.flatMap f).length=l.length * s:=by
 induction l with
 | nil=>simp
 | cons x l ih=>rw [List.flatMap_cons,List.length_append,ih,hs,List.length_cons,Nat.add_mul];omega
theorem flat_get {α:Type} (f:α→List Value) (s:Nat) (hs:∀ x,(f x).length=s) (l:List α):∀ (k:Nat) (x:α),l[k]? = some x→∀ j,j < s→(l.flatMap f)[k * s + j]? = (f x)[j]?:=by
 induction l with
 | nil=>intro k x h;simp at h
 | cons y l ih =>
  intro k x h j hj
  rw [List.flatMap_cons]
  cases k with
  | zero =>
   simp at h;subst h
   rw [Nat.zero_mul,Nat.zero_add,List.getElem?_append_left (by rw [hs];exact hj)]
  | succ k =>
   have h1:=ih k x (by simpa using h) j hj
   rw [List.getElem?_append_right (by rw [hs,Nat.add_mul];omega),hs,show (k + 1) * s + j - s=k * s + j by rw [Nat.add_mul];omega]
   exact h1
def Lst {α:Type} (f:α→List Value) (s:Nat) (w:World) (A:Option Addr) (n:Nat) (l:List α):Prop:=n=l.length∧Rd w s A n (l.flatMap f)
theorem Lst.below {α:Type} {f:α→List Value} {s:Nat} {w w':World} {A:Option Addr} {n:Nat} {l:List α} (h:Lst f s w A n l) (hb:Below w.heap.size w w'):Lst f s w' A n l:=⟨h.1,h.2.below hb⟩
theorem Lst.get {α:Type} {f:α→List Value} {s:Nat} (hs:∀ x,(f x).length=s) {w:World} {A:Option Addr} {n k:Nat} {l:List α} (h:Lst f s w A n l) (hk:k < n) :
  ∃ ad x,A=some ad∧l[k]? = some x∧∀ j u,j < s→(f x)[j]? = some u→w.cell? (ad.add (k * s + j))=some u:=by
 obtain ⟨e,hr⟩:=h
 obtain ⟨ad,hA,hc⟩:=hr.at_ hk
 have hl:l[k]? = some (l[k]'(by omega)):=List.getElem?_eq_getElem (by omega)
 refine ⟨ad,_,hA,hl,fun j u hj hu=>?_⟩
 obtain ⟨v,a,b⟩:=hc j hj
 rw [flat_get f s hs l k _ hl j hj,hu] at a
 injection a with a
 subst a;exact b
abbrev P:=Int × Int
def pairCells (p:P):List Value:=[.int .i64 p.1,.int .i64 p.2]
abbrev Pairs (w:World) (A:Option Addr) (n:Nat) (l:List P):Prop:=Lst pairCells 2 w A n l
theorem Pairs.at_ {w:World} {A:Option Addr} {n k:Nat} {l:List P} (h:Pairs w A n l) (hk:k < n) :
  ∃ ad x,A=some ad∧l[k]? = some x∧w.cell? (ad.add (k * 2))=some (.int .i64 x.1)∧w.cell? ⟨(ad.add (k * 2)).block,(ad.add (k * 2)).off + 1,none⟩=some (.int .i64 x.2):=by
 obtain ⟨ad,x,hA,hl,hc⟩:=Lst.get (f:=pairCells) (s:=2) (fun _=>rfl) h hk
 refine ⟨ad,x,hA,hl,hc 0 _ (by omega) rfl,?_⟩
 rw [←add_next _ _ _ (by omega)];exact hc 1 _ (by omega) rfl
structure Ro where
 fr:Int
 tt:Int
 mins:Int
 lim:Int
namespace G
def carries (x:Ro) (k:Int):Bool:=(x.lim == -1) || decide (k≤x.lim)
inductive Walk (l:List Ro) (k s:Int):Int→Int→Nat→Prop
 | nil:Walk l k s s 0 0
 | snoc (u t:Int) (e:Nat) (x:Ro):Walk l k s u t e→x ∈ l→carries x k=true→x.fr=u→Walk l k s x.tt (t + x.mins) (e + 1)
def Fine (n:Int) (l:List Ro):Prop:=∀ x ∈ l,(0≤x.fr∧x.fr < n)∧(0≤x.tt∧x.tt < n)∧1≤x.mins
def at_ (out:List Int) (v:Int):Int:=(out[v.toNat]?).getD (-1)
def Dist (n:Nat) (l:List Ro) (k s:Int) (out:List Int):Prop :=
 out.length=n∧∀ v:Int,0≤v→v < n→(at_ out v=-1∧∀ t e,¬ Walk l k s v t e)∨(0≤at_ out v∧(∃ e,Walk l k s v (at_ out v) e)∧∀ t e,Walk l k s v t e→at_ out v≤t)
theorem Walk.pos {n:Int} {l:List Ro} {k s v t:Int} {e:Nat} (hf:Fine n l) (h:Walk l k s v t e):(e:Int)≤t:=by
 induction h with
 | nil=>simp
 | snoc u t e x _ hx _ _ ih=>have:=(hf x hx).2.2;omega
theorem Walk.node {n:Int} {l:List Ro} {k s v t:Int} {e:Nat} (hf:Fine n l) (hs:0≤s∧s < n) (h:Walk l k s v t e):0≤v∧v < n:=by
 cases h with
 | nil=>exact hs
 | snoc u t e x _ hx _ _=>exact (hf x hx).2.1
theorem Dist.eq {n:Nat} {l:List Ro} {k s:Int} {a b:List Int} (ha:Dist n l k s a) (hb:Dist n l k s b):a=b:=by
 apply List.ext_getElem?
 intro i
 by_cases hi:i < n
 ·have h1:a[i]? = some (a[i]'(by rw [ha.1];exact hi)):=List.getElem?_eq_getElem _
  have h2:b[i]? = some (b[i]'(by rw [hb.1];exact hi)):=List.getElem?_eq_getElem _
  have e1:at_ a (i:Int)=a[i]'(by rw [ha.1];exact hi):=by unfold at_;rw [Int.toNat_natCast,h1];rfl
  have e2:at_ b (i:Int)=b[i]'(by rw [hb.1];exact hi):=by unfold at_;rw [Int.toNat_natCast,h2];rfl
  have ga:=ha.2 i (by omega) (by omega)
  have gb:=hb.2 i (by omega) (by omega)
  rw [e1] at ga
  rw [e2] at gb
  rw [h1,h2]
  congr 1
  rcases ga with ⟨a1,a2⟩ | ⟨a1,⟨ea,a2⟩,a3⟩
  ·rcases gb with ⟨b1,_⟩ | ⟨_,⟨eb,b2⟩,_⟩
   ·rw [a1,b1]
   ·exact absurd b2 (a2 _ _)
  ·rcases gb with ⟨_,b2⟩ | ⟨_,⟨eb,b2⟩,b3⟩
   ·exact absurd a2 (b2 _ _)
   ·have:=a3 _ _ b2
    have:=b3 _ _ a2
    omega
 ·rw [List.getElem?_eq_none (by rw [ha.1];omega),List.getElem?_eq_none (by rw [hb.1];omega)]
theorem at_set {out:List Int} {v u t:Int} (hv:0≤v∧v < out.length) (hu:0≤u):at_ (out.set v.toNat t) u=if u=v then t else at_ out u:=by
 unfold at_
 by_cases h:u=v
 ·subst h
  rw [if_pos rfl,List.getElem?_set_self (by omega)];rfl
 ·rw [if_neg h,List.getElem?_set_ne (by omega)]
structure Inv (n:Nat) (l:List Ro) (k s:Int) (out:List Int) (q:List (Int × Int)):Prop where
 len:out.length=n
 done:∀ v,0≤v→at_ out v ≠ -1→0≤at_ out v∧(∃ e,Walk l k s v (at_ out v) e)∧∀ t e,Walk l k s v t e→at_ out v≤t
 que:∀ p ∈ q,(0≤p.2∧p.2 < n)∧∃ e,Walk l k s p.2 p.1 e
 start:at_ out s ≠ -1∨(0,s) ∈ q
 next:∀ x ∈ l,carries x k=true→at_ out x.fr ≠ -1→at_ out x.tt ≠ -1∨(at_ out x.fr + x.mins,x.tt) ∈ q
theorem Inv.exit {n:Nat} {l:List Ro} {k s:Int} {out:List Int} {q:List (Int × Int)} (hf:Fine n l) (hs:0≤s∧s < n) (h:Inv n l k s out q) {v t:Int} {e:Nat} (hw:Walk l k s v t e):at_ out v=-1→∃ p ∈ q,p.1≤t:=by
 induction hw with
 | nil =>
  intro h0
  rcases h.start with h1 | h1
  ·exact absurd h0 h1
  ·exact ⟨_,h1,Int.le_refl _⟩
 | snoc u t e x hu hx hc hxu ih =>
  intro h0
  have hm:=(hf x hx).2.2
  by_cases hd:at_ out u=-1
  ·obtain ⟨p,hp,hle⟩:=ih hd
   exact ⟨p,hp,by omega⟩
  ·have hu0:=hu.node hf hs
   have h2:=(h.done u hu0.1 hd).2.2 _ _ hu
   rcases h.next x hx hc (by rw [hxu];exact hd) with h3 | h3
   ·exact absurd h0 h3
   ·rw [hxu] at h3
    exact ⟨_,h3,by simp only;omega⟩
theorem Inv.first {n:Nat} {l:List Ro} {k s:Int} (hs:0≤s∧s < n):Inv n l k s (List.replicate n (-1)) [(0,s)]:=by
 have h1:∀ v:Int,at_ (List.replicate n (-1)) v=-1:=by
  intro v
  unfold at_
  rw [List.getElem?_replicate]
  split <;> rfl
 refine ⟨by simp,fun v _ h=>absurd (h1 v) h,fun p hp=>?_,.inr List.mem_cons_self,fun x _ _ h=>absurd (h1 _) h⟩
 simp at hp
 subst hp
 exact ⟨hs,0,Walk.nil⟩
theorem Inv.drop {n:Nat} {l:List Ro} {k s:Int} {out:List Int} {q q':List (Int × Int)} {t v:Int} (h:Inv n l k s out q) (hp:q.Perm ((t,v) :: q')) (hd:at_ out v ≠ -1):Inv n l k s out q':=by
 have mem:∀ p,p ∈ q→p=(t,v)∨p ∈ q':=fun p hq=>List.mem_cons.1 (hp.mem_iff.1 hq)
 refine ⟨h.len,h.done,fun p hq=>h.que p (hp.mem_iff.2 (List.mem_cons_of_mem _ hq)),?_,fun x hx hc hx1=>?_⟩
 ·rcases h.start with h1 | h1
  ·exact .inl h1
  ·rcases mem _ h1 with h2 | h2
   ·injection h2 with _ h2
    exact .inl (h2 ▸ hd)
   ·exact .inr h2
 ·rcases h.next x hx hc hx1 with h1 | h1
  ·exact .inl h1
  ·rcases mem _ h1 with h2 | h2
   ·injection h2 with _ h2
    exact .inl (by rw [h2];exact hd)
   ·exact .inr h2
theorem Inv.take {n:Nat} {l:List Ro} {k s:Int} {out:List Int} {q q' q2:List (Int × Int)} {t v:Int} (hf:Fine n l) (hs:0≤s∧s < n) (h:Inv n l k s out q) (hp:q.Perm ((t,v) :: q')) (hd:at_ out v=-1)
  (hmin:∀ p ∈ q,t≤p.1) (hq2:∀ p,p ∈ q2 ↔ (p ∈ q'∨∃ x ∈ l,carries x k=true∧x.fr=v∧p=(t + x.mins,x.tt))):Inv n l k s (out.set v.toNat t) q2:=by
 have mem:∀ p,p ∈ q→p=(t,v)∨p ∈ q':=fun p hq=>List.mem_cons.1 (hp.mem_iff.1 hq)
 obtain ⟨hv,ev,hwv⟩:=h.que (t,v) (hp.mem_iff.2 List.mem_cons_self)
 simp only at hv hwv
 have hvl:0≤v∧v < out.length:=by rw [h.len];exact hv
 have ht:=hwv.pos hf
 have hbest:∀ t' e',Walk l k s v t' e'→t≤t':=by
  intro t' e' hw
  obtain ⟨p,hpq,hle⟩:=h.exit hf hs hw hd
  have:=hmin p hpq
  omega
 refine ⟨by rw [List.length_set];exact h.len,?_,?_,?_,?_⟩
 ·intro u hu hu1
  rw [at_set hvl hu] at hu1 ⊢
  by_cases e:u=v
  ·subst e
   rw [if_pos rfl]
   exact ⟨by omega,⟨ev,hwv⟩,hbest⟩
  ·rw [if_neg e] at hu1 ⊢
   exact h.done u hu hu1
 ·intro p hpq
  rcases (hq2 p).1 hpq with h1 | ⟨x,hx,hc,hxv,rfl⟩
  ·exact h.que p (hp.mem_iff.2 (List.mem_cons_of_mem _ h1))
  ·exact ⟨(hf x hx).2.1,ev + 1,Walk.snoc v t ev x hwv hx hc hxv⟩
 ·rw [at_set hvl hs.1]
  by_cases e:s=v
  ·rw [if_pos e];exact .inl (by omega)
  ·rw [if_neg e]
   rcases h.start with h1 | h1
   ·exact .inl h1
   ·rcases mem _ h1 with h2 | h2
    ·injection h2 with _ h2
     exact absurd h2 e
    ·exact .inr ((hq2 _).2 (.inl h2))
 ·intro x hx hc
  rw [at_set hvl (hf x hx).1.1,at_set hvl (hf x hx).2.1.1]
  by_cases e2:x.tt=v
  ·intro _
   rw [if_pos e2]
   exact .inl (by omega)
  ·rw [if_neg e2]
   by_cases e1:x.fr=v
   ·rw [if_pos e1]
    intro _
    exact .inr ((hq2 _).2 (.inr ⟨x,hx,hc,e1,rfl⟩))
   ·rw [if_neg e1]
    intro hx1
    rcases h.next x hx hc hx1 with h1 | h1
    ·exact .inl h1
    ·rcases mem _ h1 with h2 | h2
     ·injection h2 with _ h2
      exact absurd h2 e2
     ·exact .inr ((hq2 _).2 (.inl h2))
theorem Inv.dist {n:Nat} {l:List Ro} {k s:Int} {out:List Int} (hf:Fine n l) (hs:0≤s∧s < n) (h:Inv n l k s out []):Dist n l k s out:=by
 refine ⟨h.len,fun v h0 _=>?_⟩
 by_cases e:at_ out v=-1
 ·refine .inl ⟨e,fun t e' hw=>?_⟩
  obtain ⟨p,hp,_⟩:=h.exit hf hs hw e
  simp at hp
 ·exact .inr (h.done v h0 e)
def step (k:Int) (out:List Int) (x:Ro):List Int :=
 if (carries x k && (decide (0≤at_ out x.fr) && (decide (at_ out x.tt < 0) || decide (at_ out x.fr + x.mins < at_ out x.tt))))=true then out.set x.tt.toNat (at_ out x.fr + x.mins) else out
def round (k:Int) (out:List Int):List Ro→List Int
 | []=>out
 | x :: l=>round k (step k out x) l
def rounds (k:Int) (l:List Ro):Nat→List Int→List Int
 | 0,out=>out
 | r + 1,out=>rounds k l r (round k out l)
structure Upto (n:Nat) (l:List Ro) (k s:Int) (r:Nat) (out:List Int):Prop where
 len:out.length=n
 walk:∀ v,0≤v→at_ out v=-1∨(0≤at_ out v∧∃ e,Walk l k s v (at_ out v) e)
 best:∀ v t e,Walk l k s v t e→e≤r→0≤at_ out v∧at_ out v≤t
def Le (a b:List Int):Prop:=a.length=b.length∧∀ v,0≤v→0≤at_ a v→0≤at_ b v∧at_ b v≤at_ a v
theorem Le.refl (a:List Int):Le a a:=⟨rfl,fun _ _ h=>⟨h,Int.le_refl _⟩⟩
theorem Le.trans {a b c:List Int} (h:Le a b) (h2:Le b c):Le a c:=⟨h.1.trans h2.1,fun v hv h0=>by
 obtain ⟨g1,g2⟩:=h.2 v hv h0
 obtain ⟨g3,g4⟩:=h2.2 v hv g1
 exact ⟨g3,by omega⟩⟩
theorem step_le {n:Nat} {l:List Ro} {k:Int} {out:List Int} {x:Ro} (hf:Fine n l) (hx:x ∈ l) (hl:out.length=n):Le out (step k out x):=by
 have f:=hf x hx
 unfold step
 split
 ·rename_i h
  simp only [Bool.and_eq_true,Bool.or_eq_true,decide_eq_true_eq] at h
  refine ⟨by rw [List.length_set],fun v hv h0=>?_⟩
  rw [at_set (by rw [hl];exact f.2.1) hv]
  by_cases e:v=x.tt
  ·subst e;rw [if_pos rfl];omega
  ·rw [if_neg e];exact ⟨h0,Int.le_refl _⟩
 ·exact Le.refl _
theorem step_walk {n:Nat} {l:List Ro} {k s:Int} {out:List Int} {x:Ro} (hf:Fine n l) (hx:x ∈ l) (hl:out.length=n) (h:∀ v,0≤v→at_ out v=-1∨(0≤at_ out v∧∃ e,Walk l k s v (at_ out v) e)) :
  ∀ v,0≤v→at_ (step k out x) v=-1∨(0≤at_ (step k out x) v∧∃ e,Walk l k s v (at_ (step k out x) v) e):=by
 have f:=hf x hx
 intro v hv
 unfold step
 split
 ·rename_i hc
  simp only [Bool.and_eq_true,Bool.or_eq_true,decide_eq_true_eq] at hc
  rw [at_set (by rw [hl];exact f.2.1) hv]
  by_cases e:v=x.tt
  ·subst e
   rw [if_pos rfl]
   rcases h x.fr f.1.1 with h1 | ⟨h1,e1,h2⟩
   ·omega
   ·exact .inr ⟨by omega,e1 + 1,Walk.snoc _ _ _ x h2 hx hc.1 rfl⟩
  ·rw [if_neg e];exact h v hv
 ·exact h v hv
theorem step_best {n:Nat} {l:List Ro} {k:Int} {out:List Int} {x:Ro} (hf:Fine n l) (hx:x ∈ l) (hl:out.length=n) (hc:carries x k=true) (h0:0≤at_ out x.fr):0≤at_ (step k out x) x.tt∧at_ (step k out x) x.tt≤at_ out x.fr + x.mins:=by
 have f:=hf x hx
 unfold step
 split
 ·rw [at_set (by rw [hl];exact f.2.1) f.2.1.1,if_pos rfl]
  omega
 ·rename_i h
  simp only [Bool.and_eq_true,Bool.or_eq_true,decide_eq_true_eq,hc,true_and,not_and,not_or] at h
  have:=h h0
  omega
theorem round_all {n:Nat} {l0:List Ro} {k s:Int} (hf:Fine n l0):∀ (l:List Ro) (out:List Int),(∀ x ∈ l,x ∈ l0)→out.length=n→(∀ v,0≤v→at_ out v=-1∨(0≤at_ out v∧∃ e,Walk l0 k s v (at_ out v) e)) →
  Le out (round k out l)∧(∀ v,0≤v→at_ (round k out l) v=-1∨(0≤at_ (round k out l) v∧∃ e,Walk l0 k s v (at_ (round k out l) v) e)) ∧
   ∀ x ∈ l,carries x k=true→0≤at_ out x.fr→0≤at_ (round k out l) x.tt∧at_ (round k out l) x.tt≤at_ out x.fr + x.mins:=by
 intro l
 induction l with
 | nil=>intro out _ _ h;exact ⟨Le.refl _,h,fun x hx=>by simp at hx⟩
 | cons y l ih =>
  intro out hm hl h
  have hy:=hm y List.mem_cons_self
  have s1:=step_le (k:=k) hf hy hl
  obtain ⟨g1,g2,g3⟩:=ih (step k out y) (fun x hx=>hm x (List.mem_cons_of_mem _ hx)) (by rw [←s1.1];exact hl) (step_walk hf hy hl h)
  refine ⟨s1.trans g1,g2,fun x hx hc h0=>?_⟩
  have f:=hf x (hm x hx)
  rcases List.mem_cons.1 hx with rfl | hx
  ·obtain ⟨b1,b2⟩:=step_best hf hy hl hc h0
   obtain ⟨c1,c2⟩:=g1.2 _ f.2.1.1 b1
   exact ⟨c1,by show at_ (round k (step k out x) l) x.tt≤_;omega⟩
  ·obtain ⟨b1,b2⟩:=s1.2 _ f.1.1 h0
   obtain ⟨c1,c2⟩:=g3 x hx hc b1
   exact ⟨c1,by show at_ (round k (step k out y) l) x.tt≤_;omega⟩
theorem Upto.round {n:Nat} {l:List Ro} {k s:Int} {r:Nat} {out:List Int} (hf:Fine n l) (hs:0≤s∧s < n) (h:Upto n l k s r out):Upto n l k s (r + 1) (round k out l):=by
 obtain ⟨g1,g2,g3⟩:=round_all hf l out (fun _ hx=>hx) h.len h.walk
 refine ⟨by rw [←g1.1];exact h.len,g2,fun v t e hw he=>?_⟩
 cases hw with
 | nil =>
  obtain ⟨b1,b2⟩:=h.best s 0 0 Walk.nil (by omega)
  obtain ⟨c1,c2⟩:=g1.2 s hs.1 b1
  exact ⟨c1,by omega⟩
 | snoc u t e x hu hx hc hxu =>
  subst hxu
  obtain ⟨b1,b2⟩:=h.best _ _ _ hu (by omega)
  obtain ⟨c1,c2⟩:=g3 x hx hc b1
  exact ⟨c1,by omega⟩
theorem Upto.rounds {n:Nat} {l:List Ro} {k s:Int} (hf:Fine n l) (hs:0≤s∧s < n):∀ (m r:Nat) (out:List Int),Upto n l k s r out→Upto n l k s (r + m) (rounds k l m out):=by
 intro m
 induction m with
 | zero=>intro r out h;exact h
 | succ m ih =>
  intro r out h
  have:=ih (r + 1) _ (h.round hf hs)
  rwa [show r + 1 + m=r + (m + 1) by omega] at this
theorem Upto.first {n:Nat} {l:List Ro} {k s:Int} (hs:0≤s∧s < n):Upto n l k s 0 ((List.replicate n (-1)).set s.toNat 0):=by
 have hl:(List.replicate n (-1:Int)).length=n:=by simp
 have h1:∀ v:Int,at_ (List.replicate n (-1)) v=-1:=by
  intro v
  unfold at_
  rw [List.getElem?_replicate]
  split <;> rfl
 refine ⟨by simp,fun v hv=>?_,fun v t e hw he=>?_⟩
 ·rw [at_set (by rw [hl];exact hs) hv]
  by_cases e:v=s
  ·subst e;rw [if_pos rfl];exact .inr ⟨Int.le_refl _,0,Walk.nil⟩
  ·rw [if_neg e];exact .inl (h1 v)
 ·cases hw with
  | nil=>rw [at_set (by rw [hl];exact hs) hs.1,if_pos rfl];exact ⟨Int.le_refl _,Int.le_refl _⟩
  | snoc _ _ _ _ _ _ _ _=>omega
inductive Once (l:List Ro) (k s:Int):List Int→Int→Nat→Prop
 | nil:Once l k s [s] 0 0
 | snoc (u t:Int) (L:List Int) (e:Nat) (x:Ro):Once l k s (u :: L) t e→x ∈ l→carries x k=true→x.fr=u→x.tt ∉ u :: L→Once l k s (x.tt :: u :: L) (t + x.mins) (e + 1)
theorem Once.walk {l:List Ro} {k s:Int} {L:List Int} {t:Int} {e:Nat} (h:Once l k s L t e):∃ v L',L=v :: L'∧Walk l k s v t e∧L.length=e + 1∧L.Nodup:=by
 induction h with
 | nil=>exact ⟨s,[],rfl,Walk.nil,rfl,by simp⟩
 | snoc u t L e x _ hx hc hxu hno ih =>
  obtain ⟨v,L',e1,hw,hl,hd⟩:=ih
  injection e1 with e1 e2
  subst e1
  exact ⟨x.tt,u :: L,rfl,Walk.snoc _ _ _ x hw hx hc hxu,by simp at hl ⊢;omega,List.nodup_cons.2 ⟨hno,hd⟩⟩
theorem Once.back {n:Int} {l:List Ro} {k s:Int} {L:List Int} {t:Int} {e:Nat} (hf:Fine n l) (h:Once l k s L t e):∀ v ∈ L,∃ L' t' e',Once l k s (v :: L') t' e'∧t'≤t:=by
 induction h with
 | nil=>intro v hv;simp at hv;subst hv;exact ⟨[],0,0,Once.nil,Int.le_refl _⟩
 | snoc u t L e x ho hx hc hxu hno ih =>
  intro v hv
  have:=(hf x hx).2.2
  rcases List.mem_cons.1 hv with rfl | hv
  ·exact ⟨u :: L,t + x.mins,e + 1,Once.snoc u t L e x ho hx hc hxu hno,Int.le_refl _⟩
  ·obtain ⟨L',t',e',h1,h2⟩:=ih v hv
   exact ⟨L',t',e',h1,by omega⟩
theorem Walk.once {n:Int} {l:List Ro} {k s v t:Int} {e:Nat} (hf:Fine n l) (h:Walk l k s v t e):∃ L t' e',Once l k s (v :: L) t' e'∧t'≤t:=by
 induction h with
 | nil=>exact ⟨[],0,0,Once.nil,Int.le_refl _⟩
 | snoc u t e x _ hx hc hxu ih =>
  obtain ⟨L,t',e',ho,hle⟩:=ih
  have hm:=(hf x hx).2.2
  by_cases hin:x.tt ∈ u :: L
  ·obtain ⟨L2,t2,e2,h1,h2⟩:=ho.back hf _ hin
   exact ⟨L2,t2,e2,h1,by omega⟩
  ·exact ⟨u :: L,t' + x.mins,e' + 1,Once.snoc u t' L e' x ho hx hc hxu hin,by omega⟩
theorem Once.nodes {n:Int} {l:List Ro} {k s:Int} {L:List Int} {t:Int} {e:Nat} (hf:Fine n l) (hs:0≤s∧s < n) (h:Once l k s L t e):∀ v ∈ L,0≤v∧v < n:=by
 induction h with
 | nil=>intro v hv;simp at hv;subst hv;exact hs
 | snoc u t L e x _ hx _ _ _ ih =>
  intro v hv
  rcases List.mem_cons.1 hv with rfl | hv
  ·exact (hf x hx).2.1
  ·exact ih v hv
theorem nodup_len:∀ (n:Nat) (L:List Int),L.Nodup→(∀ v ∈ L,0≤v∧v < n)→L.length≤n:=by
 intro n
 induction n with
 | zero =>
  intro L _ h
  cases L with
  | nil=>exact Nat.le_refl _
  | cons a L=>have:=h a List.mem_cons_self;omega
 | succ n ih =>
  intro L hd h
  by_cases hin:(n:Int) ∈ L
  ·have h1:=ih (L.erase n) (hd.erase _) (fun v hv=>by
    have h2:=h v (List.mem_of_mem_erase hv)
    have h3:v ≠ n:=fun e=>by subst e;exact (List.Nodup.mem_erase_iff hd).1 hv |>.1 rfl
    omega)
   rw [List.length_erase_of_mem hin] at h1
   omega
  ·have:=ih L hd (fun v hv=>by
    have h2:=h v hv
    have h3:v ≠ n:=fun e=>hin (e ▸ hv)
    omega)
   omega
theorem rounds_dist {n:Nat} {l:List Ro} {k s:Int} (hf:Fine n l) (hs:0≤s∧s < n):Dist n l k s (rounds k l n ((List.replicate n (-1)).set s.toNat 0)):=by
 have h:=Upto.rounds hf hs n 0 _ (Upto.first (l:=l) (k:=k) hs)
 rw [Nat.zero_add] at h
 have best:∀ v t e,Walk l k s v t e→0≤at_ (rounds k l n ((List.replicate n (-1)).set s.toNat 0)) v∧at_ (rounds k l n ((List.replicate n (-1)).set s.toNat 0)) v≤t:=by
  intro v t e hw
  obtain ⟨L,t',e',ho,hle⟩:=hw.once hf
  obtain ⟨v',L',e1,hw',hlen,hnd⟩:=ho.walk
  injection e1 with e1 _
  subst e1
  have:=nodup_len n _ hnd (ho.nodes hf hs)
  obtain ⟨g1,g2⟩:=h.best _ _ _ hw' (by omega)
  exact ⟨g1,by omega⟩
 refine ⟨h.len,fun v h0 _=>?_⟩
 rcases h.walk v h0 with h1 | ⟨h1,h2⟩
 ·refine .inl ⟨h1,fun t e hw=>?_⟩
  have:=(best v t e hw).1
  omega
 ·exact .inr ⟨h1,h2,fun t e hw=>(best v t e hw).2⟩
end G
def winCells:List (Int × Int)→List Value
 | []=>[]
 | p :: l=>.int .i64 p.1 :: .int .i64 p.2 :: winCells l
theorem winCells_get (l:List (Int × Int)):∀ (k:Nat) (p:Int × Int),l[k]? = some p→(winCells l)[k * 2]? = some (.int .i64 p.1)∧(winCells l)[k * 2 + 1]? = some (.int .i64 p.2):=by
 induction l with
 | nil=>intro k p h;simp at h
 | cons q l ih =>
  intro k p h
  cases k with
  | zero=>simp at h;subst h;simp [winCells]
  | succ k =>
   have:=ih k p (by simpa using h)
   rw [show (k + 1) * 2=k * 2 + 1 + 1 by omega]
   simpa [winCells] using this
def Wins (w:World) (A:Option Addr) (n:Nat) (l:List (Int × Int)):Prop:=n=l.length∧Rd w 2 A n (winCells l)
theorem Wins.below {w w':World} {A:Option Addr} {n:Nat} {l:List (Int × Int)} (h:Wins w A n l) (hb:Below w.heap.size w w'):Wins w' A n l:=⟨h.1,h.2.below hb⟩
theorem Wins.at_ {w:World} {A:Option Addr} {n k:Nat} {l:List (Int × Int)} (h:Wins w A n l) (hk:k < n) :
  ∃ ad o c,A=some ad∧l[k]? = some (o,c)∧w.cell? (ad.add (k * 2))=some (.int .i64 o)∧w.cell? ⟨(ad.add (k * 2)).block,(ad.add (k * 2)).off + 1,none⟩=some (.int .i64 c):=by
 obtain ⟨e,hr⟩:=h
 obtain ⟨ad,hA,hc⟩:=hr.at_ hk
 have hl:l[k]? = some (l[k]'(by omega)):=List.getElem?_eq_getElem (by omega)
 obtain ⟨g1,g2⟩:=winCells_get l k _ hl
 obtain ⟨u0,a0,b0⟩:=hc 0 (by omega)
 obtain ⟨u1,a1,b1⟩:=hc 1 (by omega)
 rw [Nat.add_zero] at a0 b0
 rw [add_next _ _ _ (by omega)] at b1
 rw [g1] at a0;rw [g2] at a1
 injection a0 with a0;injection a1 with a1
 subst a0 a1
 exact ⟨ad,_,_,hA,hl,b0,b1⟩
namespace H
def rightFrom (b:Int):List (Int × Int)→Bool
 | []=>true
 | p :: l=>!(decide (p.1≤b) || decide (p.1 < 0) || decide (p.2 < p.1) || decide (1000000 < p.2)) && rightFrom p.2 l
def right (l:List (Int × Int)):Bool:=rightFrom (-1) l && decide (l.length≤6)
theorem rightFrom_drop {b o c:Int} {l:List (Int × Int)} {k:Nat} (h:l[k]? = some (o,c)) :
  rightFrom b (l.drop k)=(!(decide (o≤b) || decide (o < 0) || decide (c < o) || decide (1000000 < c)) && rightFrom c (l.drop (k + 1))):=by
 obtain ⟨hk,e⟩:=List.getElem?_eq_some_iff.1 h
 rw [List.drop_eq_getElem_cons hk,e]
 rfl
def minute (t:Int):Bool:=decide (0≤t) && decide (t≤1000000)
def all (l:List (Int × Int)):List (Int × Int):=if l.length=0 then [(0,1000000)] else l
def fitGo (t s:Int):List (Int × Int)→Int × Bool
 | []=>(0,false)
 | p :: l=>if max t p.1 + s≤p.2 then (max t p.1,true) else fitGo t s l
def fit (l:List (Int × Int)) (t s:Int):Int × Bool:=if right l && minute t && minute s then fitGo t s (all l) else (0,false)
def lastGo (y s:Int):List (Int × Int)→Int × Bool
 | []=>(0,false)
 | p :: l=>if p.1≤min y p.2 - s then (min y p.2 - s,true) else lastGo y s l
def last (l:List (Int × Int)) (y s:Int):Int × Bool:=if right l && minute y && minute s then lastGo y s (all l).reverse else (0,false)
def opens (t:Int) (p:Int × Int):Bool:=decide (p.1≤t) && decide (t≤p.2)
theorem rightFrom_bd {b:Int} {l:List (Int × Int)} (h:rightFrom b l=true):∀ p ∈ l,0≤p.1∧p.1≤p.2∧p.2≤1000000∧b < p.1:=by
 induction l generalizing b with
 | nil=>intro p hp;cases hp
 | cons q l ih =>
  simp only [rightFrom,Bool.and_eq_true,Bool.not_eq_true',Bool.or_eq_false_iff,decide_eq_false_iff_not] at h
  obtain ⟨⟨⟨⟨h1,h2⟩,h3⟩,h4⟩,h5⟩:=h
  intro p hp
  rcases List.mem_cons.1 hp with rfl | hp
  ·omega
  ·have:=ih h5 p hp;omega
theorem right_bd {l:List (Int × Int)} (h:right l=true):l.length≤6∧∀ p ∈ l,0≤p.1∧p.1≤p.2∧p.2≤1000000:=by
 simp only [right,Bool.and_eq_true,decide_eq_true_eq] at h
 exact ⟨h.2,fun p hp=>by have:=rightFrom_bd h.1 p hp;omega⟩
theorem all_bd {l:List (Int × Int)} (h:right l=true):(all l).length≤6∧∀ p ∈ all l,0≤p.1∧p.1≤p.2∧p.2≤1000000:=by
 obtain ⟨h1,h2⟩:=right_bd h
 unfold all;split
 ·refine ⟨by simp,fun p hp=>?_⟩
  rw [List.mem_singleton] at hp
  subst hp;simp
 ·exact ⟨h1,h2⟩
theorem fitGo_drop {t s o c:Int} {l:List (Int × Int)} {k:Nat} (h:l[k]? = some (o,c)) :
  fitGo t s (l.drop k)=if max t o + s≤c then (max t o,true) else fitGo t s (l.drop (k + 1)):=by
 obtain ⟨hk,e⟩:=List.getElem?_eq_some_iff.1 h
 rw [List.drop_eq_getElem_cons hk,e]
 rfl
end H
set_option maxHeartbeats 1000000 in
theorem hright_any (A:Option Addr) (n c:Nat) (l:List (Int × Int)) (w:World) (hl:Wins w A n l) (hn:n≤1000000000) :
  Calls Tryz.prog 168 #[.slice A n c] w fun e w'=>e=.returned (.bool (H.right l))∧Below w.heap.size w w':=by
 go_enter Tryz.func168,Tryz.ntmps168
 go_wp2
 go_loopw [3,8] (fun vb vi wr=>∃ (b:Int) (k:Nat),vb=.int .i64 b∧vi=.int .i64 k∧k≤n∧Hid (H.rightFrom (-1) l=H.rightFrom b (l.drop k))∧Below w.heap.size w wr) (fun _ vi _=>n - (intOf vi).toNat)
 case atStart=>exact ⟨-1,0,rfl,rfl,by omega,by show _=_;rw [List.drop_zero],Below.refl _ _⟩
 case round =>
  obtain ⟨b,k,rfl,rfl,hk,hr,hb⟩:=hrel
  by_cases hlt:k < n
  ·obtain ⟨ad,o,d,rfl,hg,c0,c1⟩:=(hl.below hb).at_ hlt
   have HS:=Lib.hid (H.rightFrom_drop (b:=b) hg)
   clear hg
   go_wp2
   all_goals first
    | (go_ret
       refine ⟨ret_b (Eq.symm ?_),hb.alloc hb.size _⟩
       unfold H.right
       rw [hr.out,HS.out]
       simp
       omega)
    | (go_roundw
       case rel=>exact ⟨d,k + 1,rfl,by go_num,by omega,by show _=_;rw [hr.out,HS.out];simp;omega,hb.alloc hb.size _⟩
       case measure=>simp [intOf];omega)
  ·obtain rfl:k=n:=by omega
   have hd:l.drop k=[]:=List.drop_eq_nil_of_le (by rw [←hl.1];exact Nat.le_refl _)
   have HD:=Lib.hid hd
   clear hd
   go_wp2
   go_ret
   refine ⟨ret_b (Eq.symm ?_),hb⟩
   unfold H.right
   rw [hr.out,HD.out,←hl.1]
   simp [H.rightFrom]
   omega
set_option maxHeartbeats 400000 in
theorem minute_any (t:Int) (w:World):Calls Tryz.prog 170 #[.int .i64 t] w fun e w'=>e=.returned (.bool (H.minute t))∧w=w':=by
 go_enter Tryz.func170,Tryz.ntmps170
 go_wp2
 all_goals (go_ret;refine ⟨ret_b (Eq.symm ?_),rfl⟩;unfold H.minute;simp;try omega)
theorem ret_ib {a:Int} {x:Bool} {p:Int × Bool} (h:p=(a,x)):Ending.returned (.tuple #[.int .i64 a,.bool x])=.returned (.tuple #[.int .i64 p.1,.bool p.2]):=by rw [h]
theorem all_wins {w w':World} {A:Option Addr} {n:Nat} {l:List (Int × Int)} (h:Wins w A n l) (hb:Below w.heap.size w w') (h0:n ≠ 0):Wins w' A n (H.all l):=by
 have:H.all l=l:=by unfold H.all;rw [if_neg (by rw [←h.1];exact h0)]
 rw [this];exact h.below hb
set_option maxHeartbeats 400000 in
theorem all_any (A:Option Addr) (n c:Nat) (l:List (Int × Int)) (w:World) (hl:Wins w A n l) (hn:n≤1000000000) :
  Calls Tryz.prog 171 #[.slice A n c] w fun e w'=>∃ A' n' c',e=.returned (.slice A' n' c')∧Wins w' A' n' (H.all l)∧Below w.heap.size w w':=by
 by_cases h0:n=0
 ·subst h0
  have e:H.all l=[(0,1000000)]:=by unfold H.all;rw [if_pos hl.1.symm]
  rw [e]
  clear e
  go_enter Tryz.func171,Tryz.ntmps171
  go_wp2
  go_ret
  exact ⟨_,_,_,rfl,⟨rfl,Rd.new w _ 158 2 1 rfl⟩,(Below.refl _ _).alloc (Nat.le_refl _) _⟩
 ·have e0:((n:Int) == 0)=false:=by simp;omega
  go_enter Tryz.func171,Tryz.ntmps171
  go_wp2
  go_ret
  exact ⟨A,n,c,rfl,all_wins hl (Below.refl _ _) h0,Below.refl _ _⟩
set_option maxHeartbeats 1000000 in
theorem fit_yes (A:Option Addr) (n c:Nat) (l:List (Int × Int)) (t s:Int) (w:World) (hl:Wins w A n l) (hr:H.right l=true) (ht:0≤t∧t≤1000000) (hs:0≤s∧s≤1000000) :
  Calls Tryz.prog 122 #[.slice A n c,.int .i64 t,.int .i64 s] w fun e w'=>e=.returned (.tuple #[.int .i64 (H.fitGo t s (H.all l)).1,.bool (H.fitGo t s (H.all l)).2])∧Below w.heap.size w w':=by
 have hn:n≤6:=by have:=(H.right_bd hr).1;rw [hl.1];exact this
 have hm1:H.minute t=true:=by simp [H.minute];omega
 have hm2:H.minute s=true:=by simp [H.minute];omega
 have hbd:=(H.all_bd hr).2
 have hlen:=(H.all_bd hr).1
 obtain ⟨t0,t1⟩:=ht
 obtain ⟨s0,s1⟩:=hs
 have HBD:=Lib.hid hbd
 clear hbd
 go_enter Tryz.func122,Tryz.ntmps122
 go_wp2_with (first
  | (go_at_call 168;refine (hright_any _ _ _ l _ hl (by omega)).mono ?_;rintro e w1 ⟨rfl,hb1⟩)
  | (go_at_call 170;refine (minute_any _ _).mono ?_;rintro e w2 ⟨rfl,rfl⟩)
  | (go_at_call 171;refine (all_any _ _ _ l _ (hl.below hb1) (by omega)).mono ?_;rintro e w2 ⟨A1,n1,c1,rfl,h1,hb2⟩))
 have hn1:n1≤6:=by rw [h1.1];exact hlen
 have hb:=bel hb1 hb2
 clear hb1 hb2
 go_loopw [27] (fun vi wr=>∃ k:Nat,vi=.int .i64 k∧k≤n1∧Hid (H.fitGo t s (H.all l)=H.fitGo t s ((H.all l).drop k))∧Below w2.heap.size w2 wr) (fun vi _=>n1 - (intOf vi).toNat)
 case atStart=>exact ⟨0,rfl,by omega,by show _=_;rw [List.drop_zero],Below.refl _ _⟩
 case round =>
  obtain ⟨k,rfl,hk,hr,hbr⟩:=hrel
  by_cases hlt:k < n1
  ·obtain ⟨ad,o,d,rfl,hg,c0,c1⟩:=(h1.below hbr).at_ hlt
   have HS:=Lib.hid (H.fitGo_drop (t:=t) (s:=s) hg)
   obtain ⟨o0,od,d1⟩:=HBD.out _ (List.mem_of_getElem? hg)
   have o0':0≤o:=o0
   have od':o≤d:=od
   have d1':d≤1000000:=d1
   clear hg o0 od d1
   by_cases hto:t < o
   ·have em:max t o=o:=by omega
    rw [em] at HS
    clear em
    by_cases hfit:o + s≤d
    ·go_wp2
     go_ret2
     exact ⟨ret_ib (by rw [hr.out,HS.out,if_pos hfit]),(bel hb hbr).alloc (bel hb hbr).size _⟩
    ·go_wp2
     go_roundw
     case rel=>exact ⟨k + 1,by go_num,by omega,by show _=_;rw [hr.out,HS.out,if_neg hfit],hbr.alloc hbr.size _⟩
     case measure=>simp [intOf];omega
   ·have em:max t o=t:=by omega
    rw [em] at HS
    clear em
    by_cases hfit:t + s≤d
    ·go_wp2
     go_ret2
     exact ⟨ret_ib (by rw [hr.out,HS.out,if_pos hfit]),(bel hb hbr).alloc (bel hb hbr).size _⟩
    ·go_wp2
     go_roundw
     case rel=>exact ⟨k + 1,by go_num,by omega,by show _=_;rw [hr.out,HS.out,if_neg hfit],hbr.alloc hbr.size _⟩
     case measure=>simp [intOf];omega
  ·have hd:(H.all l).drop k=[]:=List.drop_eq_nil_of_le (by rw [←h1.1];omega)
   have HD:=Lib.hid hd
   clear hd
   go_wp2
   go_ret2
   exact ⟨ret_ib (by rw [hr.out,HD.out];rfl),bel hb hbr⟩
set_option maxHeartbeats 1000000 in
theorem fit_no (A:Option Addr) (n c:Nat) (l:List (Int × Int)) (t s:Int) (w:World) (hl:Wins w A n l) (hn:n≤1000000000) (h:¬ (H.right l=true∧H.minute t=true∧H.minute s=true)) :
  Calls Tryz.prog 122 #[.slice A n c,.int .i64 t,.int .i64 s] w fun e w'=>e=.returned (.tuple #[.int .i64 0,.bool false])∧Below w.heap.size w w':=by
 cases hr:H.right l
 ·go_enter Tryz.func122,Tryz.ntmps122
  go_wp2_with (first
   | (go_at_call 168;refine (hright_any _ _ _ l _ hl (by omega)).mono ?_;rintro e w1 ⟨rfl,hb1⟩)
   | (go_at_call 170;refine (minute_any _ _).mono ?_;rintro e w2 ⟨rfl,rfl⟩))
  go_ret2
  exact ⟨rfl,hb1⟩
 ·cases hm1:H.minute t
  ·go_enter Tryz.func122,Tryz.ntmps122
   go_wp2_with (first
    | (go_at_call 168;refine (hright_any _ _ _ l _ hl (by omega)).mono ?_;rintro e w1 ⟨rfl,hb1⟩)
    | (go_at_call 170;refine (minute_any _ _).mono ?_;rintro e w2 ⟨rfl,rfl⟩))
   go_ret2
   exact ⟨rfl,hb1⟩
  ·have hm2:H.minute s=false:=by cases hm2:H.minute s;rfl;exact absurd ⟨hr,hm1,hm2⟩ h
   go_enter Tryz.func122,Tryz.ntmps122
   go_wp2_with (first
    | (go_at_call 168;refine (hright_any _ _ _ l _ hl (by omega)).mono ?_;rintro e w1 ⟨rfl,hb1⟩)
    | (go_at_call 170;refine (minute_any _ _).mono ?_;rintro e w2 ⟨rfl,rfl⟩))
   go_ret2
   exact ⟨rfl,hb1⟩
theorem fit_any (A:Option Addr) (n c:Nat) (l:List (Int × Int)) (t s:Int) (w:World) (hl:Wins w A n l) (hn:n≤1000000000) :
  Calls Tryz.prog 122 #[.slice A n c,.int .i64 t,.int .i64 s] w fun e w'=>e=.returned (.tuple #[.int .i64 (H.fit l t s).1,.bool (H.fit l t s).2])∧Below w.heap.size w w':=by
 by_cases h:H.right l=true∧H.minute t=true∧H.minute s=true
 ·have e:H.fit l t s=H.fitGo t s (H.all l):=by unfold H.fit;rw [if_pos (by simp [h])]
  rw [e]
  exact fit_yes A n c l t s w hl h.1 (by have:=h.2.1;simp [H.minute] at this;omega) (by have:=h.2.2;simp [H.minute] at this;omega)
 ·have e:H.fit l t s=(0,false):=by unfold H.fit;rw [if_neg (by simpa [and_assoc] using h)]
  rw [e]
  exact fit_no A n c l t s w hl hn h
theorem Tryz.info158:(Tryz.prog.info? 158).map (fun i=>(i.zero,i.size,i.bytes))=some (some (.agg #[.int .i64 0,.int .i64 0]),2,16):=by kernel_rfl
structure Q where
 node:Int
 room:Int
 kilos:Int
 service:Int
 frm:Int
 by_:Int
 A:Option Addr
 n:Nat
 c:Nat
 l:List (Int × Int)
def Q.cells (q:Q):List Value:=[.int .i64 q.node,.int .i64 q.room,.int .i64 q.kilos,.int .i64 q.service,.int .i64 q.frm,.int .i64 q.by_,.slice q.A q.n q.c]
def reqCells:List Q→List Value
 | []=>[]
 | q :: l=>.int .i64 q.node :: .int .i64 q.room :: .int .i64 q.kilos :: .int .i64 q.service :: .int .i64 q.frm :: .int .i64 q.by_ :: .slice q.A q.n q.c :: reqCells l
theorem reqCells_len (l:List Q):(reqCells l).length=l.length * 7:=by
 induction l with
 | nil=>rfl
 | cons p l ih=>simp [reqCells,ih];omega
theorem reqCells_get (l:List Q):∀ (k:Nat) (q:Q),l[k]? = some q→∀ j,j < 7→(reqCells l)[k * 7 + j]? = q.cells[j]?:=by
 induction l with
 | nil=>intro k p h;simp at h
 | cons q0 l ih =>
  intro k q h j hj
  cases k with
  | zero =>
   simp at h;subst h
   rcases j with _ | _ | _ | _ | _ | _ | _ | j <;> first | rfl | omega
  | succ k =>
   have:=ih k q (by simpa using h) j hj
   rw [show (k + 1) * 7 + j=k * 7 + j + 1 + 1 + 1 + 1 + 1 + 1 + 1 by omega]
   simpa [reqCells] using this
def Reqs (w:World) (A:Option Addr) (n:Nat) (l:List Q):Prop:=n=l.length∧Rd w 7 A n (reqCells l)∧∀ q ∈ l,Wins w q.A q.n q.l
theorem Reqs.below {w w':World} {A:Option Addr} {n:Nat} {l:List Q} (h:Reqs w A n l) (hb:Below w.heap.size w w'):Reqs w' A n l:=⟨h.1,h.2.1.below hb,fun q hq=>(h.2.2 q hq).below hb⟩
theorem Reqs.at_ {w:World} {A:Option Addr} {n k:Nat} {l:List Q} (h:Reqs w A n l) (hk:k < n) :
  ∃ ad q,A=some ad∧l[k]? = some q∧Wins w q.A q.n q.l∧w.cell? (ad.add (k * 7))=some (.int .i64 q.node) ∧
   w.cell? ⟨(ad.add (k * 7)).block,(ad.add (k * 7)).off + 1,none⟩=some (.int .i64 q.room) ∧
   w.cell? ⟨(ad.add (k * 7)).block,(ad.add (k * 7)).off + 2,none⟩=some (.int .i64 q.kilos) ∧
   w.cell? ⟨(ad.add (k * 7)).block,(ad.add (k * 7)).off + 3,none⟩=some (.int .i64 q.service) ∧
   w.cell? ⟨(ad.add (k * 7)).block,(ad.add (k * 7)).off + 4,none⟩=some (.int .i64 q.frm) ∧
   w.cell? ⟨(ad.add (k * 7)).block,(ad.add (k * 7)).off + 5,none⟩=some (.int .i64 q.by_) ∧
   w.cell? ⟨(ad.add (k * 7)).block,(ad.add (k * 7)).off + 6,none⟩=some (.slice q.A q.n q.c):=by
 obtain ⟨e,hr,hq⟩:=h
 obtain ⟨ad,hA,hc⟩:=hr.at_ hk
 have hl:l[k]? = some (l[k]'(by omega)):=List.getElem?_eq_getElem (by omega)
 have g:=reqCells_get l k _ hl
 refine ⟨ad,_,hA,hl,hq _ (List.getElem_mem _),?_⟩
 have key:∀ j,j < 7→∀ u,(l[k]'(by omega)).cells[j]? = some u→w.cell? (ad.add (k * 7 + j))=some u:=by
  intro j hj u hu
  obtain ⟨v,a,b⟩:=hc j hj
  rw [g j hj,hu] at a
  injection a with a
  subst a;exact b
 refine ⟨by simpa using key 0 (by omega) _ rfl,?_,?_,?_,?_,?_,?_⟩
 ·rw [←add_next _ _ _ (by omega)];exact key 1 (by omega) _ rfl
 ·rw [←add_next _ _ _ (by omega)];exact key 2 (by omega) _ rfl
 ·rw [←add_next _ _ _ (by omega)];exact key 3 (by omega) _ rfl
 ·rw [←add_next _ _ _ (by omega)];exact key 4 (by omega) _ rfl
 ·rw [←add_next _ _ _ (by omega)];exact key 5 (by omega) _ rfl
 ·rw [←add_next _ _ _ (by omega)];exact key 6 (by omega) _ rfl
def Q.val (q:Q):Value:=.agg #[.int .i64 q.node,.int .i64 q.room,.int .i64 q.kilos,.int .i64 q.service,.int .i64 q.frm,.int .i64 q.by_,.slice q.A q.n q.c]
structure S where
 day:Int
 depot:Int
 start:Int
 end_:Int
 tare:Int
 A:Option Addr
 n:Nat
 c:Nat
 l:List Int
namespace H
def inWin (t s:Int) (p:Int × Int):Bool:=decide (p.1≤t) && decide (t + s≤p.2)
def fits (l:List (Int × Int)) (t s:Int):Bool:=minute t && minute s && decide (t + s≤1000000) && (l.any (inWin t s) || decide (l.length=0))
theorem minute_iff {t:Int}:minute t=true ↔ 0≤t∧t≤1000000:=by simp [minute]
theorem fits_iff {l:List (Int × Int)} {t s:Int}:fits l t s=true ↔ (0≤t∧t≤1000000)∧(0≤s∧s≤1000000)∧t + s≤1000000∧((∃ p ∈ l,p.1≤t∧t + s≤p.2)∨l=[]):=by
 simp only [fits,Bool.and_eq_true,Bool.or_eq_true,minute_iff,decide_eq_true_eq,List.any_eq_true,inWin,List.length_eq_zero_iff]
 constructor
 ·rintro ⟨⟨⟨h1,h2⟩,h3⟩,h4⟩;exact ⟨h1,h2,h3,h4⟩
 ·rintro ⟨h1,h2,h3,h4⟩;exact ⟨⟨⟨h1,h2⟩,h3⟩,h4⟩
theorem right_iff {l:List (Int × Int)}:right l=true ↔ rightFrom (-1) l=true∧l.length≤6:=by simp [right]
end H
theorem run_append_of_nil {P:Program} (w:World) (base:Nat) (t ty e:TypeId) (i:TypeInfo) (size:Nat) (ht:P.underlying t=some (.slice e)) (hi:P.info? e=some i)
  (v:Value) (n:Nat) (xs:List Value) (hown:w.ownsRow base e size v n xs) (c:Nat):(Builtin.append_ #[t,t] ty #[v,.slice none 0 c]).run P w=.ok v w:=by
 rcases hown.2 with ⟨rfl,rfl⟩ | ⟨g,cap,cur,rfl,_,_,hnc,_⟩
 ·simp [Builtin.append_,run_underlying ht,sizeOf,typeInfo,hi,Builtin.lenOf,Builtin.firstCells]
 ·simp [Builtin.append_,run_underlying ht,sizeOf,typeInfo,hi,Builtin.lenOf,Builtin.firstCells,hnc,storeCells]
theorem run_append_rd {P:Program} (w:World) (base:Nat) (t ty e:TypeId) (i:TypeInfo) (z:Value) (size bytes:Nat) (ht:P.underlying t=some (.slice e)) (hi:P.info? e=some i) (hz:i.zero=some z)
  (hsize:i.size=size) (hby:i.bytes=bytes) (hzs:z.cells.size=size) (hsz:0 < size)
  (v:Value) (n:Nat) (xs:List Value) (hown:w.ownsRow base e size v n xs)
  (A:Option Addr) (m c:Nat) (news:List Value) (hr:Rd w size A m news) (h1:∀ u ∈ news,u.oneCell'=true)
  (h63:n + m≤maxLen) (hbytes:(n + m) * bytes≤140737488355328) (hbase:base≤w.heap.size) :
  ∃ v' w',(Builtin.append_ #[t,t] ty #[v,.slice A m c]).run P w=.ok v' w'∧w'.ownsRow base e size v' (n + m) (xs ++ news)∧w.grownBy w' v.ownBlock ∧
   (v'.ownBlock=v.ownBlock∨v'.ownBlock=some w.heap.size):=by
 rcases A with _ | ad
 ·have hm:m=0:=by
   rcases Nat.eq_zero_or_pos m with h0 | h0
   ·exact h0
   ·obtain ⟨ad,h,_⟩:=hr.2 h0
    cases h
  subst hm
  have hn:news=[]:=List.eq_nil_of_length_eq_zero (by simpa using hr.1)
  subst hn
  exact ⟨v,w,run_append_of_nil w base t ty e i size ht hi v n xs hown c,by simpa using hown,World.grownBy.refl w _,.inl rfl⟩
 ·have hcells:∀ j u,news[j]? = some u→w.cell? (ad.add j)=some u:=by
   intro j u hu
   rcases Nat.eq_zero_or_pos m with h0 | h0
   ·subst h0
    have hn:news=[]:=List.eq_nil_of_length_eq_zero (by simpa using hr.1)
    subst hn
    simp at hu
   ·obtain ⟨ad',h,hc⟩:=hr.2 h0
    injection h with h
    subst h
    exact hc j u hu
  obtain ⟨v',w',hrun,h2,h3,_,h5⟩:=run_append_own_at (P:=P) w base t ty e i z size bytes ht hi hz hsize hby hzs hsz v n xs hown ad m c news hr.1 hcells h1 h63 hbytes hbase
  exact ⟨v',w',hrun,h2,h3,h5⟩
theorem wp_append_rd {P:Program} {w:World} {ops:Array Oper} {rest:List Oper} {o:Oper} {a:Act} {Q:Exit→Act→World→Prop} (hgd:o.guard=none) (s x:Operand) (t:TypeId)
  (ho:o.op=.call { callee:=.builtin .append,args:=#[s,x],argTypes:=#[t,t] })
  (base:Nat) (e:TypeId) (i:TypeInfo) (z:Value) (size bytes:Nat) (ht:P.underlying t=some (.slice e)) (hi:P.info? e=some i) (hz:i.zero=some z)
  (hsize:i.size=size) (hby:i.bytes=bytes) (hzs:z.cells.size=size) (hsz:0 < size)
  (v:Value) (n:Nat) (xs:List Value) (hs:a.eval s=v) (hown:w.ownsRow base e size v n xs)
  (A:Option Addr) (m c:Nat) (news:List Value) (hx:a.eval x=.slice A m c) (hr:Rd w size A m news) (h1:∀ u ∈ news,u.oneCell'=true)
  (h63:n + m≤maxLen) (hbytes:(n + m) * bytes≤140737488355328) (hbase:base≤w.heap.size)
  (h:∀ v' w',w'.ownsRow base e size v' (n + m) (xs ++ news)→w.grownBy w' v.ownBlock→(v'.ownBlock=v.ownBlock∨v'.ownBlock=some w.heap.size)→wpList P ops Q rest (a.put o.dst v') w'):wpList P ops Q (o :: rest) a w:=by
 refine wpList_plain hgd fun K hK=>?_
 obtain ⟨v',w',hrun,h2,h3,h4⟩:=run_append_rd (P:=P) w base t o.type e i z size bytes ht hi hz hsize hby hzs hsz v n xs hown A m c news hr h1 h63 hbytes hbase
 unfold Oper.wp execOp
 simp only [ho,resolve,invoke,builtin,Sem.run_bind,Sem.run_pure,Result.andThen_ok,List.map_toArray,List.map_cons,List.map_nil,hs,hx,hrun]
 exact hK _ _ (h v' w' h2 h3 h4)
theorem winCells_one (l:List (Int × Int)):∀ u ∈ winCells l,u.oneCell'=true:=by
 induction l with
 | nil=>intro u hu;cases hu
 | cons p l ih =>
  intro u hu
  simp only [winCells,List.mem_cons] at hu
  rcases hu with rfl | rfl | hu
  ·rfl
  ·rfl
  ·exact ih u hu
namespace H
theorem rightFrom_all {l:List (Int × Int)} (h:right l=true):rightFrom (-1) (all l)=true:=by
 unfold all;split
 ·rfl
 ·exact (right_iff.1 h).1
theorem fitGo_least {b t s:Int} {l:List (Int × Int)} (h:rightFrom b l=true) (hs:0≤s) :
  ((fitGo t s l).2=true→(∃ q ∈ l,q.1≤(fitGo t s l).1∧(fitGo t s l).1 + s≤q.2)∧t≤(fitGo t s l).1) ∧
  (∀ x,t≤x→∀ q ∈ l,q.1≤x→x + s≤q.2→(fitGo t s l).2=true∧(fitGo t s l).1≤x):=by
 induction l generalizing b with
 | nil=>exact ⟨fun h=>(by cases h),fun x _ q hq=>(by cases hq)⟩
 | cons p l ih =>
  have hx:=h
  simp only [rightFrom,Bool.and_eq_true] at hx
  obtain ⟨_,hr⟩:=hx
  have hbd:=rightFrom_bd hr
  obtain ⟨i1,i2⟩:=ih hr
  simp only [fitGo]
  by_cases hf:max t p.1 + s≤p.2
  ·rw [if_pos hf]
   refine ⟨fun _=>⟨⟨p,List.mem_cons_self ..,by simp;omega,hf⟩,by simp;omega⟩,fun x hx q hq h1 h2=>⟨rfl,?_⟩⟩
   show max t p.1≤x
   rcases List.mem_cons.1 hq with rfl | hq'
   ·omega
   ·have:=(hbd q hq').2.2.2;omega
  ·rw [if_neg hf]
   refine ⟨fun h'=>?_,fun x hx q hq h1 h2=>?_⟩
   ·obtain ⟨⟨q,hq,h1,h2⟩,h3⟩:=i1 h'
    exact ⟨⟨q,List.mem_cons_of_mem _ hq,h1,h2⟩,h3⟩
   ·rcases List.mem_cons.1 hq with rfl | hq'
    ·omega
    ·exact i2 x hx q hq' h1 h2
theorem fit_yes_eq {l:List (Int × Int)} {t s:Int} (hr:right l=true) (ht:0≤t∧t≤1000000) (hs:0≤s∧s≤1000000):fit l t s=fitGo t s (all l):=by
 unfold fit;rw [if_pos (by simp only [Bool.and_eq_true,minute_iff];exact ⟨⟨hr,ht⟩,hs⟩)]
def At (l:List (Int × Int)) (x s:Int):Prop:=∃ q ∈ all l,q.1≤x∧x + s≤q.2
theorem fit_least {l:List (Int × Int)} {t s:Int} (hr:right l=true) (ht:0≤t∧t≤1000000) (hs:0≤s∧s≤1000000) :
  ((fit l t s).2=true→At l (fit l t s).1 s∧t≤(fit l t s).1)∧(∀ x,t≤x→At l x s→(fit l t s).2=true∧(fit l t s).1≤x):=by
 rw [fit_yes_eq hr ht hs]
 obtain ⟨h1,h2⟩:=fitGo_least (t:=t) (rightFrom_all hr) hs.1
 exact ⟨h1,fun x hx ⟨q,hq,a,b⟩=>h2 x hx q hq a b⟩
theorem first_two {l:List (Int × Int)} {t s o:Int} (hr:right l=true) (ht:0≤t∧t≤1000000) (hs:0≤s∧s≤1000000) (ho:t≤o∧o≤1000000) :
  ((fit l o s).2=true→(fit l t s).2=true∧(fit l t s).1≤(fit l o s).1)∧((fit l t s).2=true→o≤(fit l t s).1→(fit l o s).2=true∧(fit l o s).1=(fit l t s).1):=by
 obtain ⟨a1,a2⟩:=fit_least (t:=t) hr ht hs
 obtain ⟨b1,b2⟩:=fit_least (t:=o) hr (by omega) hs
 refine ⟨fun h=>?_,fun h h'=>?_⟩
 ·obtain ⟨c1,c2⟩:=b1 h
  exact a2 _ (by omega) c1
 ·obtain ⟨c1,c2⟩:=a1 h
  obtain ⟨d1,d2⟩:=b2 _ h' c1
  obtain ⟨e1,e2⟩:=b1 d1
  have:=(a2 _ (by omega) e1).2
  exact ⟨d1,by omega⟩
end H
end Go.Proofs.YtippdjmpkafifaaGreat
