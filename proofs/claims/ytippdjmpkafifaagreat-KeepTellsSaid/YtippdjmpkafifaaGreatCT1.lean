import Derived.Below
import Derived.Laws.OwnMore
import Derived.Deep.AppendLies
import Derived.Deep.Draws
import Derived.Lib.Hide
import Derived.WalkKit
import Derived.WalkSpells
import Derived.WalkLawsBesides
import Derived.Maps.AppendAt
import Derived.BigQuiet
import Derived.Test.YtippdjmpkafifaaGreatRows
import Derived.Deep.QuietTactic
import Derived.StillTailTactics
import Derived.BigRegion
import Derived.RegionTactic
import Derived.Deep.DeepCutAuto
set_option maxRecDepth 100000
set_option maxHeartbeats 64000000
namespace Go.Proofs.YtippdjmpkafifaaGreat
open Go.RowKit
theorem zA {w w1:World} {o} (h:w1=w.alloc o):Below w.heap.size w w1:=by rw [h];exact (Below.refl _ _).alloc (Nat.le_refl _) _
theorem zB {a:Sort _} (x:a):∃ y,y=x:=⟨x,rfl⟩
theorem zC {p:Prop} (h:p):Hid p:=Lib.hid h
theorem zD {a:Type _} {l:List a} {x:a} {i:Nat} (h:l[i]?=some x):x∈l:=List.mem_of_getElem? h
theorem zE {a:Type _} {l:List a} {i:Nat} {x:a}:l[i]?=some x↔∃ h:i<l.length,l[i]=x:=List.getElem?_eq_some_iff
theorem zF {a:Type _} {l:List a} {i:Nat} (h:i<l.length):l[i]?=some l[i]:=List.getElem?_eq_getElem h
theorem zG (n:Nat):n<=n:=Nat.le_refl n
theorem zH {p:Prop} [Decidable p] (h:p):decide p=true:=decide_eq_true h
theorem zI {p:Prop} [Decidable p] (h:¬p):decide p=false:=decide_eq_false h
end Go.Proofs.YtippdjmpkafifaaGreat
namespace Go.Proofs.YtippdjmpkafifaaGreat
open Go.RowKit
theorem bel {w w1 w2:World} (a:Below w.heap.size w w1) (b:Below w1.heap.size w1 w2):Below w.heap.size w w2:=a.trans (b.mono a.size)
theorem cell_lt {w:World} {p:Addr} {v:Value} (h:w.cell? p=some v):p.block < w.heap.size:=by
 unfold World.cell? at h;by_cases hb:p.block < w.heap.size
 ·exact hb
 ·rw [Array.getElem?_eq_none (by omega)] at h;simp at h
theorem add_block (a:Addr) (n:Nat):(a.add n).block=a.block:=by unfold Addr.add;split <;> rfl
theorem add_add (a:Addr) (i j:Nat):(a.add i).add j=a.add (i + j):=by
 unfold Addr.add;by_cases hi:i=0 <;> by_cases hj:j=0 <;> simp [hi,hj,Nat.add_assoc]
theorem lZ (a:Addr) (i j:Nat) (hj:0 < j):a.add (i + j)=⟨(a.add i).block,(a.add i).off + j,none⟩:=by
 unfold Addr.add;rw [if_neg (by omega)];by_cases hi:i=0 <;> simp [hi,Nat.add_assoc]
def Rd (w:World) (size:Nat) (A:Option Addr) (n:Nat) (xs:List Value):Prop :=
 xs.length=n * size/\(0 < n->∃ ad,A=some ad/\∀ j u,xs[j]? = some u->w.cell? (ad.add j)=some u)
theorem Rd.below {w w':World} {size n:Nat} {A:Option Addr} {xs:List Value} (h:Rd w size A n xs) (hb:Below w.heap.size w w'):Rd w' size A n xs :=
 ⟨h.1,λhn=>by
  obtain ⟨ad,e,hc⟩:=h.2 hn;exact ⟨ad,e,λj u hu=>(hb.cell (cell_lt (hc j u hu))).trans (hc j u hu)⟩⟩
theorem Rd.at_ {w:World} {size n k:Nat} {A:Option Addr} {xs:List Value} (h:Rd w size A n xs) (hk:k < n) :
  ∃ ad,A=some ad/\∀ j,j < size->∃ u,xs[k * size + j]? = some u/\w.cell? (ad.add (k * size + j))=some u:=by
 obtain ⟨ad,e,hc⟩:=h.2 (by omega);refine ⟨ad,e,λj hj=>?_⟩;have hl:k * size + j < xs.length:=by
  rw [h.1];have:(k + 1) * size<=n * size:=Nat.mul_le_mul_right _ hk;rw [Nat.add_mul] at this;omega
 exact ⟨xs[k * size + j],zF hl,hc _ _ (zF hl)⟩
theorem jy (g j:Nat):(⟨g,0,none⟩:Addr).add j=⟨g,j,none⟩:=by
 unfold Addr.add;split
 ·rename_i h;subst h;rfl
 ·simp
theorem Rd.of_block {w:World} {g:Nat} {cs:Array Value} {t:TypeId} (h:w.heap[g]? = some (.cells cs t (0,0))) (size n:Nat) (hn:cs.size=n * size):Rd w size (some ⟨g,0,none⟩) n cs.toList :=
 ⟨by simpa using hn,λ_=>⟨_,rfl,λj u hu=>by
  rw [jy,cell_of_row w g j cs t (0,0) h];simpa using hu⟩⟩
theorem Rd.new (w:World) (cs:Array Value) (t:TypeId) (size n:Nat) (hn:cs.size=n * size):Rd (w.alloc (.cells cs t)) size (some ⟨w.heap.size,0,none⟩) n cs.toList :=
 Rd.of_block (heap_alloc_new w _) size n hn
theorem Rd.grown {w w':World} {size n:Nat} {A:Option Addr} {xs:List Value} {r:Option Nat} (h:Rd w size A n xs) (hg:w.grownBy w' r) (hA:∀ ad,A=some ad->some ad.block ≠ r):Rd w' size A n xs :=
 ⟨h.1,λhn=>by
  obtain ⟨ad,e,hc⟩:=h.2 hn;refine ⟨ad,e,λj u hu=>?_⟩;have h1:=hc j u hu;have h2:=cell_lt h1;rw [add_block] at h2;exact (World.cell?_of_block (by rw [add_block];exact hg.block _ h2 (hA ad e))).trans h1⟩
theorem dh {w:World} {base:Nat} {e:TypeId} {size n:Nat} {v:Value} {xs:List Value} (h:w.ownsRow base e size v n xs) :
  ∃ A c,v=.slice A n c/\Rd w size A n xs/\∀ g,v.ownBlock=some g->base<=g/\g < w.heap.size:=by
 obtain ⟨hl,⟨rfl,rfl⟩ | ⟨g,cap,cur,rfl,hb,hh,hnc,_,hsz,ht⟩⟩:=h
 ·exact ⟨none,0,rfl,⟨hl,λh0=>absurd h0 (by omega)⟩,λg h=>by cases h⟩
 ·refine ⟨_,cap,rfl,⟨hl,λ_=>⟨_,rfl,λj u hu=>?_⟩⟩,λg' h=>?_⟩
  ·rw [jy,cell_of_row w g j cur e (0,0) hh];rw [<-ht] at hu;rw [List.getElem?_take] at hu;split at hu
   ·simpa using hu
   ·cases hu
  ·injection h with h;subst h;exact ⟨hb,(Array.getElem?_eq_some_iff.1 hh).1⟩
theorem grow_step {w3 wr w1:World} {r vb:Option Nat} (h:w3.grownBy wr r) (h1:wr.grownBy w1 vb) (hv:vb=r\/vb=none\/∃ g,vb=some g/\w3.heap.size<=g):w3.grownBy w1 r :=
 ⟨h1.os.trans h.os,h1.tape.trans h.tape,h1.output.trans h.output,Nat.le_trans h.size h1.size,λk hk hne =>
  (h1.block k (Nat.lt_of_lt_of_le hk h.size) (by
   rcases hv with rfl | rfl | ⟨g,rfl,hg⟩
   ·exact hne
   ·simp
   ·intro e;injection e with e;omega)).trans (h.block k hk hne)⟩
theorem ni (w:World) (r:Option Nat):w.grownBy w r:=World.grownBy.refl w r
theorem fM {w3 wr w1:World} {r:Option Nat} (h:w3.grownBy wr r) (hb:Below wr.heap.size wr w1):w3.grownBy w1 r :=
 ⟨hb.os.trans h.os,hb.tape.trans h.tape,hb.output.trans h.output,Nat.le_trans h.size hb.size,λk hk hne=>(hb.block k (Nat.lt_of_lt_of_le hk h.size)).trans (h.block k hk hne)⟩
theorem eX {w w':World} {r:Option Nat} {g:Nat} {o:Obj} (h:w.grownBy w' r) (hg:w.heap[g]? = some o) (hne:some g ≠ r):w'.heap[g]? = some o :=
 (h.block g (Array.getElem?_eq_some_iff.1 hg).1 hne).trans hg
theorem az {w w':World} {g:Nat} {o:Obj} (h:Below w.heap.size w w') (hg:w.heap[g]? = some o):w'.heap[g]? = some o :=
 (h.block g (Array.getElem?_eq_some_iff.1 hg).1).trans hg
theorem bu {w:World} {g:Nat} {o:Obj} (hg:w.heap[g]? = some o) (o':Obj):(w.alloc o').heap[g]? = some o :=
 (Below.heap_alloc w o' g (Array.getElem?_eq_some_iff.1 hg).1).trans hg
theorem af {w:World} {g:Nat} {cs:Array Value} {t:TypeId} (h:w.heap[g]? = some (.cells cs t (0,0))) (i:Nat) (v:Value) (hv:cs[i]? = some v):w.cell? ⟨g,i,none⟩=some v :=
 (cell_of_row w g i cs t (0,0) h).trans hv
theorem wF {B:Nat} {a w w':World} {v:Value} (h:Below B a w) (hs:B<=a.heap.size) (hg:w.grownBy w' v.ownBlock) (hv:∀ g,v.ownBlock=some g->B<=g):Below B a w' :=
 h.grown hg (Nat.le_trans hs h.size) (λk e=>hv k e)
theorem own_below {w w':World} {base:Nat} {e:TypeId} {size n:Nat} {v:Value} {xs:List Value} (h:w.ownsRow base e size v n xs) (hb:Below w.heap.size w w'):w'.ownsRow base e size v n xs:=by
 obtain ⟨hl,h1 | ⟨g,cap,cur,hv,hbg,hh,r⟩⟩:=h
 ·exact ⟨hl,.inl h1⟩
 ·exact ⟨hl,.inr ⟨g,cap,cur,hv,hbg,az hb hh,r⟩⟩
theorem a_ {B:Nat} {w2 w3 wr:World} {r:Option Nat} (h:Below B w2 w3) (hg:w3.grownBy wr r) (hr:∀ g,r=some g->B<=g) (hB:B<=w2.heap.size:=by exact zG _):Below B w2 wr :=
 h.grown hg (Nat.le_trans hB h.size) hr
theorem bI (w:World) (o:Obj) (g:Nat) (hg:g=w.heap.size):(w.alloc o).heap[g]? = some o:=by subst hg;exact heap_alloc_new w o
def intCells (l:List Int):List Value:=l.map (Value.int .i64)
def Ints (w:World) (A:Option Addr) (n:Nat) (l:List Int):Prop:=n=l.length/\Rd w 1 A n (intCells l)
theorem Ints.below {w w':World} {A:Option Addr} {n:Nat} {l:List Int} (h:Ints w A n l) (hb:Below w.heap.size w w'):Ints w' A n l:=⟨h.1,h.2.below hb⟩
theorem Ints.at_ {w:World} {A:Option Addr} {n k:Nat} {l:List Int} (h:Ints w A n l) (hk:k < n) :
  ∃ ad x,A=some ad/\l[k]? = some x/\w.cell? (ad.add k)=some (.int .i64 x):=by
 obtain ⟨e,hr⟩:=h;obtain ⟨ad,hA,hc⟩:=hr.at_ hk;have hl:l[k]? = some (l[k]'(by omega)):=zF (by omega);obtain ⟨u0,a0,b0⟩:=hc 0 (by omega);rw [Nat.add_zero,Nat.mul_one] at a0 b0;unfold intCells at a0;rw [List.getElem?_map,hl] at a0;simp at a0;subst a0;exact ⟨ad,_,hA,hl,b0⟩
theorem fV {x y:Int} (h:x=y):Ending.returned (.int .i64 x)=.returned (.int .i64 y):=by rw [h]
theorem oU (l:List Int):∀ u ∈ intCells l,u.oneCell'=true:=by
 intro u hu;obtain ⟨x,_,rfl⟩:=List.mem_map.1 hu;rfl
theorem mJ {w:World} {base:Nat} {v:Value} {n:Nat} {l:List Int} (h:w.ownsRow base 3 1 v n (intCells l)) (hn:n=l.length):∃ A c,v=.slice A n c/\Ints w A n l:=by
 obtain ⟨A,c,e,hr,_⟩:=dh h;exact ⟨A,c,e,hn,hr⟩
theorem lJ {α:Type} {p:α->Bool} {l:List α} {k:Nat} {x:α} (h:l[k]? = some x):(l.drop k).any p=(p x || (l.drop (k + 1)).any p):=by
 obtain ⟨hk,e⟩:=zE.1 h;rw [List.drop_eq_getElem_cons hk,e];rfl
theorem Aq {α:Type} {p:α->Bool} {l:List α} {k:Nat} {x:α} (h:l[k]? = some x):(l.drop k).all p=(p x && (l.drop (k + 1)).all p):=by
 obtain ⟨hk,e⟩:=zE.1 h;rw [List.drop_eq_getElem_cons hk,e];rfl
theorem take_snoc {α:Type} {l:List α} {k:Nat} {x:α} (h:l[k]? = some x):l.take (k + 1)=l.take k ++ [x]:=by
 obtain ⟨hk,e⟩:=zE.1 h;rw [List.take_succ_eq_append_getElem hk,e]
theorem below_drewN {B:Nat} {a w:World} (h:Below B a w) (n:Nat):Below B a (w.drewN n):=⟨h.os,h.tape,h.output,h.size,h.block⟩
theorem ay {x y:Bool} (h:x=y):Ending.returned (.bool x)=.returned (.bool y):=by rw [h]
theorem gK (w:World):Ints w none 0 []:=⟨rfl,rfl,λh=>absurd h (by omega)⟩
theorem BF (l m:List Int):intCells (l ++ m)=intCells l ++ intCells m:=by simp [intCells]
structure ah (w:World) where
 val:World
 property:Below w.heap.size w val
instance (w:World):Nonempty (ah w):=⟨⟨w,Below.refl _ _⟩⟩
theorem ah.cell {w:World} {a:Addr} {v:Value} (h:w.cell? a=some v):∀ i:ah w,i.val.cell? a=some v:=λi=>(i.property.cell (cell_lt h)).trans h
theorem dU {P:Program} {id:Nat} {Q:Exit->Act->World->Prop} {a:Act} {w:World} {l:List Oper} (hm:P.follows .mixedOrders=true) (hB:Region.lexB .any l.toArray=true)
  (h:wpQuiet P l.toArray (λw'=>∃ i:ah w,w'=i.val) (λa'=>∀ w',(∃ i:ah w,w'=i.val)->Q .normal a' w') l a):(Code.region id l.toArray true).wp P Q a w :=
 wp_region_quiet (C:=λw'=>∃ i:ah w,w'=i.val) hm hB ⟨⟨w.drew,(Below.refl _ _).drew⟩,rfl⟩ (by simpa using h)
theorem ah.calls {P:Program} {f:FuncId} {args:Array Value} {w:World} {i:ah w} {v:Value} (h:Calls P f args i.val λe w'=>e=.returned v/\Below i.val.heap.size i.val w') :
  Calls P f args i.val λe w''=>e=.returned v/\∃ j:ah w,w''=j.val :=
 h.mono λ_ w' ⟨he,hb⟩=>⟨he,⟨w',bel i.property hb⟩,rfl⟩
theorem zk (w:World) (l:List Int):Ints (w.alloc (.cells (intCells l).toArray 3)) (some ⟨w.heap.size,0,none⟩) l.length l :=
 ⟨rfl,by have h:=Rd.new w (intCells l).toArray 3 1 l.length (by simp [intCells]);simpa using h⟩
theorem oD {α:Type} (f:α->List Value) (s:Nat) (hs:∀ x,(f x).length=s) (l:List α):(l.flatMap f).length=l.length * s:=by
 induction l with
 | nil=>simp
 | cons x l ih=>rw [List.flatMap_cons,List.length_append,ih,hs,List.length_cons,Nat.add_mul];omega
theorem flat_get {α:Type} (f:α->List Value) (s:Nat) (hs:∀ x,(f x).length=s) (l:List α):∀ (k:Nat) (x:α),l[k]? = some x->∀ j,j < s->(l.flatMap f)[k * s + j]? = (f x)[j]?:=by
 induction l with
 | nil=>intro k x h;simp at h
 | cons y l ih =>
  intro k x h j hj;rw [List.flatMap_cons];cases k with
  | zero =>
   simp at h;subst h;rw [Nat.zero_mul,Nat.zero_add,List.getElem?_append_left (by rw [hs];exact hj)]
  | succ k =>
   have h1:=ih k x (by simpa using h) j hj;rw [List.getElem?_append_right (by rw [hs,Nat.add_mul];omega),hs,show (k + 1) * s + j - s=k * s + j by rw [Nat.add_mul];omega];exact h1
def aQ {α:Type} (f:α->List Value) (s:Nat) (w:World) (A:Option Addr) (n:Nat) (l:List α):Prop:=n=l.length/\Rd w s A n (l.flatMap f)
theorem aQ.below {α:Type} {f:α->List Value} {s:Nat} {w w':World} {A:Option Addr} {n:Nat} {l:List α} (h:aQ f s w A n l) (hb:Below w.heap.size w w'):aQ f s w' A n l:=⟨h.1,h.2.below hb⟩
theorem aQ.get {α:Type} {f:α->List Value} {s:Nat} (hs:∀ x,(f x).length=s) {w:World} {A:Option Addr} {n k:Nat} {l:List α} (h:aQ f s w A n l) (hk:k < n) :
  ∃ ad x,A=some ad/\l[k]? = some x/\∀ j u,j < s->(f x)[j]? = some u->w.cell? (ad.add (k * s + j))=some u:=by
 obtain ⟨e,hr⟩:=h;obtain ⟨ad,hA,hc⟩:=hr.at_ hk;have hl:l[k]? = some (l[k]'(by omega)):=zF (by omega);refine ⟨ad,_,hA,hl,λj u hj hu=>?_⟩;obtain ⟨v,a,b⟩:=hc j hj;rw [flat_get f s hs l k _ hl j hj,hu] at a;injection a with a;subst a;exact b
abbrev P:=Int × Int
def eH (p:P):List Value:=[.int .i64 p.1,.int .i64 p.2]
abbrev Pairs (w:World) (A:Option Addr) (n:Nat) (l:List P):Prop:=aQ eH 2 w A n l
theorem Pairs.at_ {w:World} {A:Option Addr} {n k:Nat} {l:List P} (h:Pairs w A n l) (hk:k < n) :
  ∃ ad x,A=some ad/\l[k]? = some x/\w.cell? (ad.add (k * 2))=some (.int .i64 x.1)/\w.cell? ⟨(ad.add (k * 2)).block,(ad.add (k * 2)).off + 1,none⟩=some (.int .i64 x.2):=by
 obtain ⟨ad,x,hA,hl,hc⟩:=aQ.get (f:=eH) (s:=2) (λ_=>rfl) h hk;refine ⟨ad,x,hA,hl,hc 0 _ (by omega) rfl,?_⟩;rw [<-lZ _ _ _ (by omega)];exact hc 1 _ (by omega) rfl
structure Ro where
 fr:Int
 tt:Int
 dI:Int
 lim:Int
namespace G
def carries (x:Ro) (k:Int):Bool:=(x.lim == -1) || decide (k<=x.lim)
inductive Walk (l:List Ro) (k s:Int):Int->Int->Nat->Prop
 | nil:Walk l k s s 0 0
 | snoc (u t:Int) (e:Nat) (x:Ro):Walk l k s u t e->x ∈ l->carries x k=true->x.fr=u->Walk l k s x.tt (t + x.dI) (e + 1)
def Fine (n:Int) (l:List Ro):Prop:=∀ x ∈ l,(0<=x.fr/\x.fr < n)/\(0<=x.tt/\x.tt < n)/\1<=x.dI
def at_ (out:List Int) (v:Int):Int:=(out[v.toNat]?).getD (-1)
def sN (n:Nat) (l:List Ro) (k s:Int) (out:List Int):Prop :=
 out.length=n/\∀ v:Int,0<=v->v < n->(at_ out v=-1/\∀ t e,¬ Walk l k s v t e)\/(0<=at_ out v/\(∃ e,Walk l k s v (at_ out v) e)/\∀ t e,Walk l k s v t e->at_ out v<=t)
theorem Walk.pos {n:Int} {l:List Ro} {k s v t:Int} {e:Nat} (hf:Fine n l) (h:Walk l k s v t e):(e:Int)<=t:=by
 induction h with
 | nil=>simp
 | snoc u t e x _ hx _ _ ih=>have:=(hf x hx).2.2;omega
theorem Walk.node {n:Int} {l:List Ro} {k s v t:Int} {e:Nat} (hf:Fine n l) (hs:0<=s/\s < n) (h:Walk l k s v t e):0<=v/\v < n:=by
 cases h with
 | nil=>exact hs
 | snoc u t e x _ hx _ _=>exact (hf x hx).2.1
theorem sN.eq {n:Nat} {l:List Ro} {k s:Int} {a b:List Int} (ha:sN n l k s a) (hb:sN n l k s b):a=b:=by
 apply List.ext_getElem?;intro i;by_cases hi:i < n
 ·have h1:a[i]? = some (a[i]'(by rw [ha.1];exact hi)):=zF _;have h2:b[i]? = some (b[i]'(by rw [hb.1];exact hi)):=zF _;have e1:at_ a (i:Int)=a[i]'(by rw [ha.1];exact hi):=by unfold at_;rw [Int.toNat_natCast,h1];rfl
  have e2:at_ b (i:Int)=b[i]'(by rw [hb.1];exact hi):=by unfold at_;rw [Int.toNat_natCast,h2];rfl
  have ga:=ha.2 i (by omega) (by omega);have gb:=hb.2 i (by omega) (by omega);rw [e1] at ga;rw [e2] at gb;rw [h1,h2];congr 1;rcases ga with ⟨a1,a2⟩ | ⟨a1,⟨ea,a2⟩,a3⟩
  ·rcases gb with ⟨b1,_⟩ | ⟨_,⟨eb,b2⟩,_⟩
   ·rw [a1,b1]
   ·exact absurd b2 (a2 _ _)
  ·rcases gb with ⟨_,b2⟩ | ⟨_,⟨eb,b2⟩,b3⟩
   ·exact absurd a2 (b2 _ _)
   ·have:=a3 _ _ b2;have:=b3 _ _ a2;omega
 ·rw [List.getElem?_eq_none (by rw [ha.1];omega),List.getElem?_eq_none (by rw [hb.1];omega)]
theorem at_set {out:List Int} {v u t:Int} (hv:0<=v/\v < out.length) (hu:0<=u):at_ (out.set v.toNat t) u=if u=v then t else at_ out u:=by
 unfold at_;by_cases h:u=v
 ·subst h;rw [if_pos rfl,List.getElem?_set_self (by omega)];rfl
 ·rw [if_neg h,List.getElem?_set_ne (by omega)]
structure Inv (n:Nat) (l:List Ro) (k s:Int) (out:List Int) (q:List (Int × Int)):Prop where
 len:out.length=n
 done:∀ v,0<=v->at_ out v ≠ -1->0<=at_ out v/\(∃ e,Walk l k s v (at_ out v) e)/\∀ t e,Walk l k s v t e->at_ out v<=t
 J4:∀ p ∈ q,(0<=p.2/\p.2 < n)/\∃ e,Walk l k s p.2 p.1 e
 start:at_ out s ≠ -1\/(0,s) ∈ q
 next:∀ x ∈ l,carries x k=true->at_ out x.fr ≠ -1->at_ out x.tt ≠ -1\/(at_ out x.fr + x.dI,x.tt) ∈ q
theorem Inv.exit {n:Nat} {l:List Ro} {k s:Int} {out:List Int} {q:List (Int × Int)} (hf:Fine n l) (hs:0<=s/\s < n) (h:Inv n l k s out q) {v t:Int} {e:Nat} (hw:Walk l k s v t e):at_ out v=-1->∃ p ∈ q,p.1<=t:=by
 induction hw with
 | nil =>
  intro h0;rcases h.start with h1 | h1
  ·exact absurd h0 h1
  ·exact ⟨_,h1,Int.le_refl _⟩
 | snoc u t e x hu hx hc hxu ih =>
  intro h0;have hm:=(hf x hx).2.2;by_cases hd:at_ out u=-1
  ·obtain ⟨p,hp,hle⟩:=ih hd;exact ⟨p,hp,by omega⟩
  ·have hu0:=hu.node hf hs;have h2:=(h.done u hu0.1 hd).2.2 _ _ hu;rcases h.next x hx hc (by rw [hxu];exact hd) with h3 | h3
   ·exact absurd h0 h3
   ·rw [hxu] at h3;exact ⟨_,h3,by simp only;omega⟩
theorem Inv.first {n:Nat} {l:List Ro} {k s:Int} (hs:0<=s/\s < n):Inv n l k s (List.replicate n (-1)) [(0,s)]:=by
 have h1:∀ v:Int,at_ (List.replicate n (-1)) v=-1:=by
  intro v;unfold at_;rw [List.getElem?_replicate];split <;> rfl
 refine ⟨by simp,λv _ h=>absurd (h1 v) h,λp hp=>?_,.inr List.mem_cons_self,λx _ _ h=>absurd (h1 _) h⟩;simp at hp;subst hp;exact ⟨hs,0,Walk.nil⟩
theorem Inv.drop {n:Nat} {l:List Ro} {k s:Int} {out:List Int} {q q':List (Int × Int)} {t v:Int} (h:Inv n l k s out q) (hp:q.Perm ((t,v) :: q')) (hd:at_ out v ≠ -1):Inv n l k s out q':=by
 have mem:∀ p,p ∈ q->p=(t,v)\/p ∈ q':=λp hq=>List.mem_cons.1 (hp.mem_iff.1 hq);refine ⟨h.len,h.done,λp hq=>h.J4 p (hp.mem_iff.2 (List.mem_cons_of_mem _ hq)),?_,λx hx hc hx1=>?_⟩
 ·rcases h.start with h1 | h1
  ·exact .inl h1
  ·rcases mem _ h1 with h2 | h2
   ·injection h2 with _ h2;exact .inl (h2 ▸ hd)
   ·exact .inr h2
 ·rcases h.next x hx hc hx1 with h1 | h1
  ·exact .inl h1
  ·rcases mem _ h1 with h2 | h2
   ·injection h2 with _ h2;exact .inl (by rw [h2];exact hd)
   ·exact .inr h2
theorem Inv.take {n:Nat} {l:List Ro} {k s:Int} {out:List Int} {q q' q2:List (Int × Int)} {t v:Int} (hf:Fine n l) (hs:0<=s/\s < n) (h:Inv n l k s out q) (hp:q.Perm ((t,v) :: q')) (hd:at_ out v=-1)
  (hmin:∀ p ∈ q,t<=p.1) (hq2:∀ p,p ∈ q2 ↔ (p ∈ q'\/∃ x ∈ l,carries x k=true/\x.fr=v/\p=(t + x.dI,x.tt))):Inv n l k s (out.set v.toNat t) q2:=by
 have mem:∀ p,p ∈ q->p=(t,v)\/p ∈ q':=λp hq=>List.mem_cons.1 (hp.mem_iff.1 hq);obtain ⟨hv,ev,hwv⟩:=h.J4 (t,v) (hp.mem_iff.2 List.mem_cons_self);simp only at hv hwv;have hvl:0<=v/\v < out.length:=by rw [h.len];exact hv
 have ht:=hwv.pos hf;have aeX:∀ t' e',Walk l k s v t' e'->t<=t':=by
  intro t' e' hw;obtain ⟨p,hpq,hle⟩:=h.exit hf hs hw hd;have:=hmin p hpq;omega
 refine ⟨by rw [List.length_set];exact h.len,?_,?_,?_,?_⟩
 ·intro u hu hu1;rw [at_set hvl hu] at hu1 ⊢;by_cases e:u=v
  ·subst e;rw [if_pos rfl];exact ⟨by omega,⟨ev,hwv⟩,aeX⟩
  ·rw [if_neg e] at hu1 ⊢;exact h.done u hu hu1
 ·intro p hpq;rcases (hq2 p).1 hpq with h1 | ⟨x,hx,hc,hxv,rfl⟩
  ·exact h.J4 p (hp.mem_iff.2 (List.mem_cons_of_mem _ h1))
  ·exact ⟨(hf x hx).2.1,ev + 1,Walk.snoc v t ev x hwv hx hc hxv⟩
 ·rw [at_set hvl hs.1];by_cases e:s=v
  ·rw [if_pos e];exact .inl (by omega)
  ·rw [if_neg e];rcases h.start with h1 | h1
   ·exact .inl h1
   ·rcases mem _ h1 with h2 | h2
    ·injection h2 with _ h2;exact absurd h2 e
    ·exact .inr ((hq2 _).2 (.inl h2))
 ·intro x hx hc;rw [at_set hvl (hf x hx).1.1,at_set hvl (hf x hx).2.1.1];by_cases e2:x.tt=v
  ·intro _;rw [if_pos e2];exact .inl (by omega)
  ·rw [if_neg e2];by_cases e1:x.fr=v
   ·rw [if_pos e1];intro _;exact .inr ((hq2 _).2 (.inr ⟨x,hx,hc,e1,rfl⟩))
   ·rw [if_neg e1];intro hx1;rcases h.next x hx hc hx1 with h1 | h1
    ·exact .inl h1
    ·rcases mem _ h1 with h2 | h2
     ·injection h2 with _ h2;exact absurd h2 e2
     ·exact .inr ((hq2 _).2 (.inl h2))
theorem Inv.ad4 {n:Nat} {l:List Ro} {k s:Int} {out:List Int} (hf:Fine n l) (hs:0<=s/\s < n) (h:Inv n l k s out []):sN n l k s out:=by
 refine ⟨h.len,λv h0 _=>?_⟩;by_cases e:at_ out v=-1
 ·refine .inl ⟨e,λt e' hw=>?_⟩;obtain ⟨p,hp,_⟩:=h.exit hf hs hw e;simp at hp
 ·exact .inr (h.done v h0 e)
def step (k:Int) (out:List Int) (x:Ro):List Int :=
 if (carries x k && (decide (0<=at_ out x.fr) && (decide (at_ out x.tt < 0) || decide (at_ out x.fr + x.dI < at_ out x.tt))))=true then out.set x.tt.toNat (at_ out x.fr + x.dI) else out
def round (k:Int) (out:List Int):List Ro->List Int
 | []=>out
 | x :: l=>round k (step k out x) l
def rounds (k:Int) (l:List Ro):Nat->List Int->List Int
 | 0,out=>out
 | r + 1,out=>rounds k l r (round k out l)
structure lG (n:Nat) (l:List Ro) (k s:Int) (r:Nat) (out:List Int):Prop where
 len:out.length=n
 walk:∀ v,0<=v->at_ out v=-1\/(0<=at_ out v/\∃ e,Walk l k s v (at_ out v) e)
 best:∀ v t e,Walk l k s v t e->e<=r->0<=at_ out v/\at_ out v<=t
def Le (a b:List Int):Prop:=a.length=b.length/\∀ v,0<=v->0<=at_ a v->0<=at_ b v/\at_ b v<=at_ a v
theorem Le.refl (a:List Int):Le a a:=⟨rfl,λ_ _ h=>⟨h,Int.le_refl _⟩⟩
theorem Le.trans {a b c:List Int} (h:Le a b) (h2:Le b c):Le a c:=⟨h.1.trans h2.1,λv hv h0=>by
 obtain ⟨g1,g2⟩:=h.2 v hv h0;obtain ⟨g3,g4⟩:=h2.2 v hv g1;exact ⟨g3,by omega⟩⟩
theorem ajx {n:Nat} {l:List Ro} {k:Int} {out:List Int} {x:Ro} (hf:Fine n l) (hx:x ∈ l) (hl:out.length=n):Le out (step k out x):=by
 have f:=hf x hx;unfold step;split
 ·rename_i h
  simp only [Bool.and_eq_true,Bool.or_eq_true,decide_eq_true_eq] at h;refine ⟨by rw [List.length_set],λv hv h0=>?_⟩;rw [at_set (by rw [hl];exact f.2.1) hv];by_cases e:v=x.tt
  ·subst e;rw [if_pos rfl];omega
  ·rw [if_neg e];exact ⟨h0,Int.le_refl _⟩
 ·exact Le.refl _
theorem ajz {n:Nat} {l:List Ro} {k s:Int} {out:List Int} {x:Ro} (hf:Fine n l) (hx:x ∈ l) (hl:out.length=n) (h:∀ v,0<=v->at_ out v=-1\/(0<=at_ out v/\∃ e,Walk l k s v (at_ out v) e)) :
  ∀ v,0<=v->at_ (step k out x) v=-1\/(0<=at_ (step k out x) v/\∃ e,Walk l k s v (at_ (step k out x) v) e):=by
 have f:=hf x hx;intro v hv;unfold step;split
 ·rename_i hc
  simp only [Bool.and_eq_true,Bool.or_eq_true,decide_eq_true_eq] at hc;rw [at_set (by rw [hl];exact f.2.1) hv];by_cases e:v=x.tt
  ·subst e;rw [if_pos rfl];rcases h x.fr f.1.1 with h1 | ⟨h1,e1,h2⟩
   ·omega
   ·exact .inr ⟨by omega,e1 + 1,Walk.snoc _ _ _ x h2 hx hc.1 rfl⟩
  ·rw [if_neg e];exact h v hv
 ·exact h v hv
theorem ajw {n:Nat} {l:List Ro} {k:Int} {out:List Int} {x:Ro} (hf:Fine n l) (hx:x ∈ l) (hl:out.length=n) (hc:carries x k=true) (h0:0<=at_ out x.fr):0<=at_ (step k out x) x.tt/\at_ (step k out x) x.tt<=at_ out x.fr + x.dI:=by
 have f:=hf x hx;unfold step;split
 ·rw [at_set (by rw [hl];exact f.2.1) f.2.1.1,if_pos rfl];omega
 ·rename_i h
  simp only [Bool.and_eq_true,Bool.or_eq_true,decide_eq_true_eq,hc,true_and,not_and,not_or] at h;have:=h h0;omega
theorem aiI {n:Nat} {l0:List Ro} {k s:Int} (hf:Fine n l0):∀ (l:List Ro) (out:List Int),(∀ x ∈ l,x ∈ l0)->out.length=n->(∀ v,0<=v->at_ out v=-1\/(0<=at_ out v/\∃ e,Walk l0 k s v (at_ out v) e)) ->
  Le out (round k out l)/\(∀ v,0<=v->at_ (round k out l) v=-1\/(0<=at_ (round k out l) v/\∃ e,Walk l0 k s v (at_ (round k out l) v) e)) /\
   ∀ x ∈ l,carries x k=true->0<=at_ out x.fr->0<=at_ (round k out l) x.tt/\at_ (round k out l) x.tt<=at_ out x.fr + x.dI:=by
 intro l;induction l with
 | nil=>intro out _ _ h;exact ⟨Le.refl _,h,λx hx=>by simp at hx⟩
 | cons y l ih =>
  intro out hm hl h;have hy:=hm y List.mem_cons_self;have s1:=ajx (k:=k) hf hy hl;obtain ⟨g1,g2,g3⟩:=ih (step k out y) (λx hx=>hm x (List.mem_cons_of_mem _ hx)) (by rw [<-s1.1];exact hl) (ajz hf hy hl h);refine ⟨s1.trans g1,g2,λx hx hc h0=>?_⟩;have f:=hf x (hm x hx);rcases List.mem_cons.1 hx with rfl | hx
  ·obtain ⟨b1,b2⟩:=ajw hf hy hl hc h0;obtain ⟨c1,c2⟩:=g1.2 _ f.2.1.1 b1;exact ⟨c1,by show at_ (round k (step k out x) l) x.tt<=_;omega⟩
  ·obtain ⟨b1,b2⟩:=s1.2 _ f.1.1 h0;obtain ⟨c1,c2⟩:=g3 x hx hc b1;exact ⟨c1,by show at_ (round k (step k out y) l) x.tt<=_;omega⟩
theorem lG.round {n:Nat} {l:List Ro} {k s:Int} {r:Nat} {out:List Int} (hf:Fine n l) (hs:0<=s/\s < n) (h:lG n l k s r out):lG n l k s (r + 1) (round k out l):=by
 obtain ⟨g1,g2,g3⟩:=aiI hf l out (λ_ hx=>hx) h.len h.walk;refine ⟨by rw [<-g1.1];exact h.len,g2,λv t e hw he=>?_⟩;cases hw with
 | nil =>
  obtain ⟨b1,b2⟩:=h.best s 0 0 Walk.nil (by omega);obtain ⟨c1,c2⟩:=g1.2 s hs.1 b1;exact ⟨c1,by omega⟩
 | snoc u t e x hu hx hc hxu =>
  subst hxu;obtain ⟨b1,b2⟩:=h.best _ _ _ hu (by omega);obtain ⟨c1,c2⟩:=g3 x hx hc b1;exact ⟨c1,by omega⟩
theorem lG.rounds {n:Nat} {l:List Ro} {k s:Int} (hf:Fine n l) (hs:0<=s/\s < n):∀ (m r:Nat) (out:List Int),lG n l k s r out->lG n l k s (r + m) (rounds k l m out):=by
 intro m;induction m with
 | zero=>intro r out h;exact h
 | succ m ih =>
  intro r out h;have:=ih (r + 1) _ (h.round hf hs);rwa [show r + 1 + m=r + (m + 1) by omega] at this
theorem lG.first {n:Nat} {l:List Ro} {k s:Int} (hs:0<=s/\s < n):lG n l k s 0 ((List.replicate n (-1)).set s.toNat 0):=by
 have hl:(List.replicate n (-1:Int)).length=n:=by simp
 have h1:∀ v:Int,at_ (List.replicate n (-1)) v=-1:=by
  intro v;unfold at_;rw [List.getElem?_replicate];split <;> rfl
 refine ⟨by simp,λv hv=>?_,λv t e hw he=>?_⟩
 ·rw [at_set (by rw [hl];exact hs) hv];by_cases e:v=s
  ·subst e;rw [if_pos rfl];exact .inr ⟨Int.le_refl _,0,Walk.nil⟩
  ·rw [if_neg e];exact .inl (h1 v)
 ·cases hw with
  | nil=>rw [at_set (by rw [hl];exact hs) hs.1,if_pos rfl];exact ⟨Int.le_refl _,Int.le_refl _⟩
  | snoc _ _ _ _ _ _ _ _=>omega
inductive Once (l:List Ro) (k s:Int):List Int->Int->Nat->Prop
 | nil:Once l k s [s] 0 0
 | snoc (u t:Int) (L:List Int) (e:Nat) (x:Ro):Once l k s (u :: L) t e->x ∈ l->carries x k=true->x.fr=u->x.tt ∉ u :: L->Once l k s (x.tt :: u :: L) (t + x.dI) (e + 1)
theorem Once.walk {l:List Ro} {k s:Int} {L:List Int} {t:Int} {e:Nat} (h:Once l k s L t e):∃ v L',L=v :: L'/\Walk l k s v t e/\L.length=e + 1/\L.Nodup:=by
 induction h with
 | nil=>exact ⟨s,[],rfl,Walk.nil,rfl,by simp⟩
 | snoc u t L e x _ hx hc hxu hno ih =>
  obtain ⟨v,L',e1,hw,hl,hd⟩:=ih;injection e1 with e1 e2;subst e1;exact ⟨x.tt,u :: L,rfl,Walk.snoc _ _ _ x hw hx hc hxu,by simp at hl ⊢;omega,List.nodup_cons.2 ⟨hno,hd⟩⟩
theorem Once.back {n:Int} {l:List Ro} {k s:Int} {L:List Int} {t:Int} {e:Nat} (hf:Fine n l) (h:Once l k s L t e):∀ v ∈ L,∃ L' t' e',Once l k s (v :: L') t' e'/\t'<=t:=by
 induction h with
 | nil=>intro v hv;simp at hv;subst hv;exact ⟨[],0,0,Once.nil,Int.le_refl _⟩
 | snoc u t L e x ho hx hc hxu hno ih =>
  intro v hv;have:=(hf x hx).2.2;rcases List.mem_cons.1 hv with rfl | hv
  ·exact ⟨u :: L,t + x.dI,e + 1,Once.snoc u t L e x ho hx hc hxu hno,Int.le_refl _⟩
  ·obtain ⟨L',t',e',h1,h2⟩:=ih v hv;exact ⟨L',t',e',h1,by omega⟩
theorem Walk.once {n:Int} {l:List Ro} {k s v t:Int} {e:Nat} (hf:Fine n l) (h:Walk l k s v t e):∃ L t' e',Once l k s (v :: L) t' e'/\t'<=t:=by
 induction h with
 | nil=>exact ⟨[],0,0,Once.nil,Int.le_refl _⟩
 | snoc u t e x _ hx hc hxu ih =>
  obtain ⟨L,t',e',ho,hle⟩:=ih;have hm:=(hf x hx).2.2;by_cases hin:x.tt ∈ u :: L
  ·obtain ⟨L2,t2,e2,h1,h2⟩:=ho.back hf _ hin;exact ⟨L2,t2,e2,h1,by omega⟩
  ·exact ⟨u :: L,t' + x.dI,e' + 1,Once.snoc u t' L e' x ho hx hc hxu hin,by omega⟩
theorem Once.nodes {n:Int} {l:List Ro} {k s:Int} {L:List Int} {t:Int} {e:Nat} (hf:Fine n l) (hs:0<=s/\s < n) (h:Once l k s L t e):∀ v ∈ L,0<=v/\v < n:=by
 induction h with
 | nil=>intro v hv;simp at hv;subst hv;exact hs
 | snoc u t L e x _ hx _ _ _ ih =>
  intro v hv;rcases List.mem_cons.1 hv with rfl | hv
  ·exact (hf x hx).2.1
  ·exact ih v hv
theorem JM:∀ (n:Nat) (L:List Int),L.Nodup->(∀ v ∈ L,0<=v/\v < n)->L.length<=n:=by
 intro n;induction n with
 | zero =>
  intro L _ h;cases L with
  | nil=>exact zG _
  | cons a L=>have:=h a List.mem_cons_self;omega
 | succ n ih =>
  intro L hd h;by_cases hin:(n:Int) ∈ L
  ·have h1:=ih (L.erase n) (hd.erase _) (λv hv=>by
    have h2:=h v (List.mem_of_mem_erase hv);have h3:v ≠ n:=λe=>by subst e;exact (List.Nodup.mem_erase_iff hd).1 hv |>.1 rfl
    omega)
   rw [List.length_erase_of_mem hin] at h1;omega
  ·have:=ih L hd (λv hv=>by
    have h2:=h v hv;have h3:v ≠ n:=λe=>hin (e ▸ hv);omega)
   omega
theorem aiM {n:Nat} {l:List Ro} {k s:Int} (hf:Fine n l) (hs:0<=s/\s < n):sN n l k s (rounds k l n ((List.replicate n (-1)).set s.toNat 0)):=by
 have h:=lG.rounds hf hs n 0 _ (lG.first (l:=l) (k:=k) hs);rw [Nat.zero_add] at h;have best:∀ v t e,Walk l k s v t e->0<=at_ (rounds k l n ((List.replicate n (-1)).set s.toNat 0)) v/\at_ (rounds k l n ((List.replicate n (-1)).set s.toNat 0)) v<=t:=by
  intro v t e hw;obtain ⟨L,t',e',ho,hle⟩:=hw.once hf;obtain ⟨v',L',e1,hw',hlen,hnd⟩:=ho.walk;injection e1 with e1 _;subst e1;have:=JM n _ hnd (ho.nodes hf hs);obtain ⟨g1,g2⟩:=h.best _ _ _ hw' (by omega);exact ⟨g1,by omega⟩
 refine ⟨h.len,λv h0 _=>?_⟩;rcases h.walk v h0 with h1 | ⟨h1,h2⟩
 ·refine .inl ⟨h1,λt e hw=>?_⟩;have:=(best v t e hw).1;omega
 ·exact .inr ⟨h1,h2,λt e hw=>(best v t e hw).2⟩
end G
def sK:List (Int × Int)->List Value
 | []=>[]
 | p :: l=>.int .i64 p.1 :: .int .i64 p.2 :: sK l
theorem ab8 (l:List (Int × Int)):(sK l).length=l.length * 2:=by
 induction l with
 | nil=>rfl
 | cons p l ih=>simp [sK,ih];omega
theorem ab7 (l:List (Int × Int)):∀ (k:Nat) (p:Int × Int),l[k]? = some p->(sK l)[k * 2]? = some (.int .i64 p.1)/\(sK l)[k * 2 + 1]? = some (.int .i64 p.2):=by
 induction l with
 | nil=>intro k p h;simp at h
 | cons q l ih =>
  intro k p h;cases k with
  | zero=>simp at h;subst h;simp [sK]
  | succ k =>
   have:=ih k p (by simpa using h);rw [show (k + 1) * 2=k * 2 + 1 + 1 by omega];simpa [sK] using this
def fB (w:World) (A:Option Addr) (n:Nat) (l:List (Int × Int)):Prop:=n=l.length/\Rd w 2 A n (sK l)
theorem fB.below {w w':World} {A:Option Addr} {n:Nat} {l:List (Int × Int)} (h:fB w A n l) (hb:Below w.heap.size w w'):fB w' A n l:=⟨h.1,h.2.below hb⟩
theorem fB.at_ {w:World} {A:Option Addr} {n k:Nat} {l:List (Int × Int)} (h:fB w A n l) (hk:k < n) :
  ∃ ad o c,A=some ad/\l[k]? = some (o,c)/\w.cell? (ad.add (k * 2))=some (.int .i64 o)/\w.cell? ⟨(ad.add (k * 2)).block,(ad.add (k * 2)).off + 1,none⟩=some (.int .i64 c):=by
 obtain ⟨e,hr⟩:=h;obtain ⟨ad,hA,hc⟩:=hr.at_ hk;have hl:l[k]? = some (l[k]'(by omega)):=zF (by omega);obtain ⟨g1,g2⟩:=ab7 l k _ hl;obtain ⟨u0,a0,b0⟩:=hc 0 (by omega);obtain ⟨u1,a1,b1⟩:=hc 1 (by omega);rw [Nat.add_zero] at a0 b0;rw [lZ _ _ _ (by omega)] at b1;rw [g1] at a0;rw [g2] at a1;injection a0 with a0;injection a1 with a1;subst a0 a1;exact ⟨ad,_,_,hA,hl,b0,b1⟩
namespace H
def rightFrom (b:Int):List (Int × Int)->Bool
 | []=>true
 | p :: l=>!(decide (p.1<=b) || decide (p.1 < 0) || decide (p.2 < p.1) || decide (1000000 < p.2)) && rightFrom p.2 l
def right (l:List (Int × Int)):Bool:=rightFrom (-1) l && decide (l.length<=6)
theorem aa8 {b o c:Int} {l:List (Int × Int)} {k:Nat} (h:l[k]? = some (o,c)) :
  rightFrom b (l.drop k)=(!(decide (o<=b) || decide (o < 0) || decide (c < o) || decide (1000000 < c)) && rightFrom c (l.drop (k + 1))):=by
 obtain ⟨hk,e⟩:=zE.1 h;rw [List.drop_eq_getElem_cons hk,e];rfl
def minute (t:Int):Bool:=decide (0<=t) && decide (t<=1000000)
def all (l:List (Int × Int)):List (Int × Int):=if l.length=0 then [(0,1000000)] else l
def fC (t s:Int):List (Int × Int)->Int × Bool
 | []=>(0,false)
 | p :: l=>if max t p.1 + s<=p.2 then (max t p.1,true) else fC t s l
def fit (l:List (Int × Int)) (t s:Int):Int × Bool:=if right l && minute t && minute s then fC t s (all l) else (0,false)
def Ze (y s:Int):List (Int × Int)->Int × Bool
 | []=>(0,false)
 | p :: l=>if p.1<=min y p.2 - s then (min y p.2 - s,true) else Ze y s l
def last (l:List (Int × Int)) (y s:Int):Int × Bool:=if right l && minute y && minute s then Ze y s (all l).reverse else (0,false)
def opens (t:Int) (p:Int × Int):Bool:=decide (p.1<=t) && decide (t<=p.2)
theorem BU {b:Int} {l:List (Int × Int)} (h:rightFrom b l=true):∀ p ∈ l,0<=p.1/\p.1<=p.2/\p.2<=1000000/\b < p.1:=by
 induction l generalizing b with
 | nil=>intro p hp;cases hp
 | cons q l ih =>
  simp only [rightFrom,Bool.and_eq_true,Bool.not_eq_true',Bool.or_eq_false_iff,decide_eq_false_iff_not] at h;obtain ⟨⟨⟨⟨h1,h2⟩,h3⟩,h4⟩,h5⟩:=h;intro p hp;rcases List.mem_cons.1 hp with rfl | hp
  ·omega
  ·have:=ih h5 p hp;omega
theorem aa9 {l:List (Int × Int)} (h:right l=true):l.length<=6/\∀ p ∈ l,0<=p.1/\p.1<=p.2/\p.2<=1000000:=by
 simp only [right,Bool.and_eq_true,decide_eq_true_eq] at h;exact ⟨h.2,λp hp=>by have:=BU h.1 p hp;omega⟩
theorem MZ {l:List (Int × Int)} (h:right l=true):(all l).length<=6/\∀ p ∈ all l,0<=p.1/\p.1<=p.2/\p.2<=1000000:=by
 obtain ⟨h1,h2⟩:=aa9 h;unfold all;split
 ·refine ⟨by simp,λp hp=>?_⟩;rw [List.mem_singleton] at hp;subst hp;simp
 ·exact ⟨h1,h2⟩
theorem aer {t s o c:Int} {l:List (Int × Int)} {k:Nat} (h:l[k]? = some (o,c)) :
  fC t s (l.drop k)=if max t o + s<=c then (max t o,true) else fC t s (l.drop (k + 1)):=by
 obtain ⟨hk,e⟩:=zE.1 h;rw [List.drop_eq_getElem_cons hk,e];rfl
end H
theorem Bq (A:Option Addr) (n c:Nat) (l:List (Int × Int)) (w:World) (hl:fB w A n l) (hn:n<=1000000000) :
  Calls Tryz.prog 168 #[.slice A n c] w λe w'=>e=.returned (.bool (H.right l))/\Below w.heap.size w w':=by
 go_enter Tryz.func168,Tryz.ntmps168;go_wp2
 go_loopw [3,8] (λvb vi wr=>∃ (b:Int) (k:Nat),vb=.int .i64 b/\vi=.int .i64 k/\k<=n/\Hid (H.rightFrom (-1) l=H.rightFrom b (l.drop k))/\Below w.heap.size w wr) (λ_ vi _=>n - (intOf vi).toNat)
 case atStart=>exact ⟨-1,0,rfl,rfl,by omega,by show _=_;rw [List.drop_zero],Below.refl _ _⟩
 case round =>
  obtain ⟨b,k,rfl,rfl,hk,hr,hb⟩:=hrel;by_cases hlt:k < n
  ·obtain ⟨ad,o,d,rfl,hg,c0,c1⟩:=(hl.below hb).at_ hlt;have HS:=zC (H.aa8 (b:=b) hg);clear hg;go_wp2
   all_goals first
    | (go_ret
       refine ⟨ay (Eq.symm ?_),hb.alloc hb.size _⟩;unfold H.right;rw [hr.out,HS.out];simp;omega)
    | (go_roundw
       case rel=>exact ⟨d,k + 1,rfl,by go_num,by omega,by show _=_;rw [hr.out,HS.out];simp;omega,hb.alloc hb.size _⟩
       case measure=>simp [intOf];omega)
  ·obtain rfl:k=n:=by omega
   have hd:l.drop k=[]:=List.drop_eq_nil_of_le (by rw [<-hl.1];exact zG _);have HD:=zC hd;clear hd;go_wp2
   go_ret;refine ⟨ay (Eq.symm ?_),hb⟩;unfold H.right;rw [hr.out,HD.out,<-hl.1];simp [H.rightFrom];omega
theorem JI (t:Int) (w:World):Calls Tryz.prog 170 #[.int .i64 t] w λe w'=>e=.returned (.bool (H.minute t))/\w=w':=by
 go_enter Tryz.func170,Tryz.ntmps170;go_wp2
 all_goals (go_ret;refine ⟨ay (Eq.symm ?_),rfl⟩;unfold H.minute;simp;try omega)
theorem uU {a:Int} {x:Bool} {p:Int × Bool} (h:p=(a,x)):Ending.returned (.tuple #[.int .i64 a,.bool x])=.returned (.tuple #[.int .i64 p.1,.bool p.2]):=by rw [h]
theorem acL {w w':World} {A:Option Addr} {n:Nat} {l:List (Int × Int)} (h:fB w A n l) (hb:Below w.heap.size w w') (h0:n ≠ 0):fB w' A n (H.all l):=by
 have:H.all l=l:=by unfold H.all;rw [if_neg (by rw [<-h.1];exact h0)]
 rw [this];exact h.below hb
theorem acJ (A:Option Addr) (n c:Nat) (l:List (Int × Int)) (w:World) (hl:fB w A n l) (hn:n<=1000000000) :
  Calls Tryz.prog 171 #[.slice A n c] w λe w'=>∃ A' n' c',e=.returned (.slice A' n' c')/\fB w' A' n' (H.all l)/\Below w.heap.size w w':=by
 by_cases h0:n=0
 ·subst h0;have e:H.all l=[(0,1000000)]:=by unfold H.all;rw [if_pos hl.1.symm]
  rw [e];clear e;go_enter Tryz.func171,Tryz.ntmps171;go_wp2
  go_ret;exact ⟨_,_,_,rfl,⟨rfl,Rd.new w _ 158 2 1 rfl⟩,(Below.refl _ _).alloc (zG _) _⟩
 ·have e0:((n:Int) == 0)=false:=by simp;omega
  go_enter Tryz.func171,Tryz.ntmps171;go_wp2
  go_ret;exact ⟨A,n,c,rfl,acL hl (Below.refl _ _) h0,Below.refl _ _⟩
theorem aey (A:Option Addr) (n c:Nat) (l:List (Int × Int)) (t s:Int) (w:World) (hl:fB w A n l) (hr:H.right l=true) (ht:0<=t/\t<=1000000) (hs:0<=s/\s<=1000000) :
  Calls Tryz.prog 122 #[.slice A n c,.int .i64 t,.int .i64 s] w λe w'=>e=.returned (.tuple #[.int .i64 (H.fC t s (H.all l)).1,.bool (H.fC t s (H.all l)).2])/\Below w.heap.size w w':=by
 have hn:n<=6:=by have:=(H.aa9 hr).1;rw [hl.1];exact this
 have hm1:H.minute t=true:=by simp [H.minute];omega
 have hm2:H.minute s=true:=by simp [H.minute];omega
 have hbd:=(H.MZ hr).2;have hlen:=(H.MZ hr).1;obtain ⟨t0,t1⟩:=ht;obtain ⟨s0,s1⟩:=hs;have sU:=zC hbd;clear hbd;go_enter Tryz.func122,Tryz.ntmps122;go_wp2_with (first
  | (go_at_call 168;refine (Bq _ _ _ l _ hl (by omega)).mono ?_;rintro e w1 ⟨rfl,hb1⟩)
  | (go_at_call 170;refine (JI _ _).mono ?_;rintro e w2 ⟨rfl,rfl⟩)
  | (go_at_call 171;refine (acJ _ _ _ l _ (hl.below hb1) (by omega)).mono ?_;rintro e w2 ⟨A1,n1,c1,rfl,h1,hb2⟩))
 have hn1:n1<=6:=by rw [h1.1];exact hlen
 have hb:=bel hb1 hb2;clear hb1 hb2;go_loopw [27] (λvi wr=>∃ k:Nat,vi=.int .i64 k/\k<=n1/\Hid (H.fC t s (H.all l)=H.fC t s ((H.all l).drop k))/\Below w2.heap.size w2 wr) (λvi _=>n1 - (intOf vi).toNat)
 case atStart=>exact ⟨0,rfl,by omega,by show _=_;rw [List.drop_zero],Below.refl _ _⟩
 case round =>
  obtain ⟨k,rfl,hk,hr,hbr⟩:=hrel;by_cases hlt:k < n1
  ·obtain ⟨ad,o,d,rfl,hg,c0,c1⟩:=(h1.below hbr).at_ hlt;have HS:=zC (H.aer (t:=t) (s:=s) hg);obtain ⟨o0,od,d1⟩:=sU.out _ (zD hg);have o0':0<=o:=o0;have od':o<=d:=od;have d1':d<=1000000:=d1;clear hg o0 od d1;by_cases hto:t < o
   ·have em:max t o=o:=by omega
    rw [em] at HS;clear em;by_cases hfit:o + s<=d
    ·go_wp2
     go_ret2
     exact ⟨uU (by rw [hr.out,HS.out,if_pos hfit]),(bel hb hbr).alloc (bel hb hbr).size _⟩
    ·go_wp2
     go_roundw
     case rel=>exact ⟨k + 1,by go_num,by omega,by show _=_;rw [hr.out,HS.out,if_neg hfit],hbr.alloc hbr.size _⟩
     case measure=>simp [intOf];omega
   ·have em:max t o=t:=by omega
    rw [em] at HS;clear em;by_cases hfit:t + s<=d
    ·go_wp2
     go_ret2
     exact ⟨uU (by rw [hr.out,HS.out,if_pos hfit]),(bel hb hbr).alloc (bel hb hbr).size _⟩
    ·go_wp2
     go_roundw
     case rel=>exact ⟨k + 1,by go_num,by omega,by show _=_;rw [hr.out,HS.out,if_neg hfit],hbr.alloc hbr.size _⟩
     case measure=>simp [intOf];omega
  ·have hd:(H.all l).drop k=[]:=List.drop_eq_nil_of_le (by rw [<-h1.1];omega);have HD:=zC hd;clear hd;go_wp2
   go_ret2
   exact ⟨uU (by rw [hr.out,HD.out];rfl),bel hb hbr⟩
theorem aex (A:Option Addr) (n c:Nat) (l:List (Int × Int)) (t s:Int) (w:World) (hl:fB w A n l) (hn:n<=1000000000) (h:¬ (H.right l=true/\H.minute t=true/\H.minute s=true)) :
  Calls Tryz.prog 122 #[.slice A n c,.int .i64 t,.int .i64 s] w λe w'=>e=.returned (.tuple #[.int .i64 0,.bool false])/\Below w.heap.size w w':=by
 cases hr:H.right l
 ·go_enter Tryz.func122,Tryz.ntmps122;go_wp2_with (first
   | (go_at_call 168;refine (Bq _ _ _ l _ hl (by omega)).mono ?_;rintro e w1 ⟨rfl,hb1⟩)
   | (go_at_call 170;refine (JI _ _).mono ?_;rintro e w2 ⟨rfl,rfl⟩))
  go_ret2
  exact ⟨rfl,hb1⟩
 ·cases hm1:H.minute t
  ·go_enter Tryz.func122,Tryz.ntmps122;go_wp2_with (first
    | (go_at_call 168;refine (Bq _ _ _ l _ hl (by omega)).mono ?_;rintro e w1 ⟨rfl,hb1⟩)
    | (go_at_call 170;refine (JI _ _).mono ?_;rintro e w2 ⟨rfl,rfl⟩))
   go_ret2
   exact ⟨rfl,hb1⟩
  ·have hm2:H.minute s=false:=by cases hm2:H.minute s;rfl;exact absurd ⟨hr,hm1,hm2⟩ h
   go_enter Tryz.func122,Tryz.ntmps122;go_wp2_with (first
    | (go_at_call 168;refine (Bq _ _ _ l _ hl (by omega)).mono ?_;rintro e w1 ⟨rfl,hb1⟩)
    | (go_at_call 170;refine (JI _ _).mono ?_;rintro e w2 ⟨rfl,rfl⟩))
   go_ret2
   exact ⟨rfl,hb1⟩
theorem VR (A:Option Addr) (n c:Nat) (l:List (Int × Int)) (t s:Int) (w:World) (hl:fB w A n l) (hn:n<=1000000000) :
  Calls Tryz.prog 122 #[.slice A n c,.int .i64 t,.int .i64 s] w λe w'=>e=.returned (.tuple #[.int .i64 (H.fit l t s).1,.bool (H.fit l t s).2])/\Below w.heap.size w w':=by
 by_cases h:H.right l=true/\H.minute t=true/\H.minute s=true
 ·have e:H.fit l t s=H.fC t s (H.all l):=by unfold H.fit;rw [if_pos (by simp [h])]
  rw [e];exact aey A n c l t s w hl h.1 (by have:=h.2.1;simp [H.minute] at this;omega) (by have:=h.2.2;simp [H.minute] at this;omega)
 ·have e:H.fit l t s=(0,false):=by unfold H.fit;rw [if_neg (by simpa [and_assoc] using h)]
  rw [e];exact aex A n c l t s w hl hn h
theorem Kr {b o d:Int} {l r r':List (Int × Int)} (h:H.rightFrom (-1) l=H.rightFrom b r) (h1:H.rightFrom b r=(!(decide (o<=b) || decide (o < 0) || decide (d < o) || decide (1000000 < d)) && H.rightFrom d r')) (h2:o<=b\/o < 0\/d < o\/1000000 < d):H.right l=false:=by
 unfold H.right;rw [h,h1];have:(!(decide (o<=b) || decide (o < 0) || decide (d < o) || decide (1000000 < d)))=false:=by simp;omega
 rw [this];simp
theorem uV (t:Int) (w:World):Calls Tryz.prog 207 #[.int .i64 t] w λe w'=>e=.returned (.bool (H.minute t))/\w=w':=by
 go_enter Tryz.func207,Tryz.ntmps207;go_wp2
 all_goals (go_ret;refine ⟨ay (Eq.symm ?_),rfl⟩;unfold H.minute;simp;try omega)
theorem zT (A:Option Addr) (n c:Nat) (l:List (Int × Int)) (w:World) (hl:fB w A n l) (hn:n<=1000000000) :
  Calls Tryz.prog 198 #[.slice A n c] w λe w'=>e=.returned (.bool (H.right l))/\Below w.heap.size w w':=by
 go_enter Tryz.func198,Tryz.ntmps198;go_wp2
 go_loopw [3] (λvi wr=>∃ (k:Nat) (b:Int),vi=.int .i64 k/\k<=n/\k<=7/\Hid (H.rightFrom (-1) l=H.rightFrom b (l.drop k))/\Hid ((k=0/\b=-1)\/∃ o,0 < k/\l[k-1]? = some (o,b))/\Below w.heap.size w wr) (λvi _=>n - (intOf vi).toNat)
 case atStart=>exact ⟨0,-1,rfl,by omega,by omega,by show _=_;rw [List.drop_zero],.inl ⟨rfl,rfl⟩,Below.refl _ _⟩
 case round =>
  obtain ⟨k,b,rfl,hk,hk7,hr,hp,hb⟩:=hrel;by_cases hlt:k < n
  ·by_cases h6:k<=6
   ·obtain ⟨ad,o,d,rfl,hg,c0,c1⟩:=(hl.below hb).at_ hlt;have HS:=zC (H.aa8 (b:=b) hg);have HG:=zC hg;clear hg;have hdec:(decide (o < 0)=true)\/(decide (o < 0)=false/\decide (d < o)=true)\/(decide (o < 0)=false/\decide (d < o)=false/\decide (1000000 < d)=true)\/(decide (o < 0)=false/\decide (d < o)=false/\decide (1000000 < d)=false):=by
     cases decide (o < 0) <;> cases decide (d < o) <;> cases decide (1000000 < d) <;> simp
    rcases hdec with q1 | ⟨q1,q2⟩ | ⟨q1,q2,q3⟩ | ⟨q1,q2,q3⟩
    ·go_wp2
     go_quiet (fail);go_wp2
     go_ret;exact ⟨ay (Eq.symm (Kr hr.out HS.out (by simp at q1;omega))),below_drewN hb _⟩
    ·go_wp2
     go_quiet (fail);go_wp2
     go_ret;exact ⟨ay (Eq.symm (Kr hr.out HS.out (by simp at q2;omega))),below_drewN hb _⟩
    ·go_wp2
     go_quiet (fail);go_wp2
     go_ret;exact ⟨ay (Eq.symm (Kr hr.out HS.out (by simp at q3;omega))),below_drewN hb _⟩
    ·by_cases h0:0 < k
     ·obtain ⟨ad',o',b',hA',hg',c0',c1'⟩:=(hl.below hb).at_ (k:=k - 1) (by omega);injection hA' with hA';subst hA';have eb:b'=b:=by
       rcases hp.out with ⟨e,_⟩ | ⟨o2,_,e⟩
       ·omega
       ·rw [hg'] at e;injection e with e;injection e
      subst eb;by_cases hob:o<=b'
      ·go_wp2
       go_quiet (fail);go_wp2
       go_quiet (fail);go_wp2
       go_ret;exact ⟨ay (Eq.symm (Kr hr.out HS.out (.inl hob))),below_drewN (below_drewN hb _) _⟩
      ·have akI:decide (o<=b')=false:=by simpa using hob
       go_wp2
       go_quiet (fail);go_wp2
       go_quiet (fail);go_wp2
       go_roundw
       case rel=>exact ⟨k + 1,d,by go_num,by omega,by omega,by show _=_;rw [hr.out,HS.out];simp at q1 q2 q3;simp;omega,.inr ⟨o,by omega,HG.out⟩,below_drewN hb _⟩
       case measure=>simp [intOf];omega
     ·have eb:b=-1:=by
       rcases hp.out with ⟨_,e⟩ | ⟨o2,e,_⟩
       ·exact e
       ·omega
      have EB:=zC eb;clear eb;have h0':decide ((0:Int) < (k:Int))=false:=by simp;omega
      go_wp2
      go_quiet (fail);go_wp2
      go_roundw
      case rel=>exact ⟨k + 1,d,by go_num,by omega,by omega,by show _=_;rw [hr.out,HS.out,EB.out];simp at q1 q2 q3;simp;omega,.inr ⟨o,by omega,HG.out⟩,below_drewN hb _⟩
      case measure=>simp [intOf];omega
   ·have h6':decide ((k:Int)<=6)=false:=by simp;omega
    go_wp2
    go_ret;refine ⟨ay (Eq.symm ?_),hb⟩;have:¬ l.length<=6:=by rw [<-hl.1];omega
    have kH:¬ (n:Int)<=6:=by omega
    simp [H.right,this,kH]
  ·obtain rfl:k=n:=by omega
   have hd:l.drop k=[]:=List.drop_eq_nil_of_le (by rw [<-hl.1];exact zG _);have HD:=zC hd;clear hd;go_wp2
   go_ret;refine ⟨ay (Eq.symm ?_),hb⟩;unfold H.right;rw [hr.out,HD.out,<-hl.1];simp [H.rightFrom];omega
structure Q where
 node:Int
 room:Int
 aF:Int
 service:Int
 aB:Int
 aA:Int
 A:Option Addr
 n:Nat
 c:Nat
 l:List (Int × Int)
def Q.cells (q:Q):List Value:=[.int .i64 q.node,.int .i64 q.room,.int .i64 q.aF,.int .i64 q.service,.int .i64 q.aB,.int .i64 q.aA,.slice q.A q.n q.c]
def uP:List Q->List Value
 | []=>[]
 | q :: l=>.int .i64 q.node :: .int .i64 q.room :: .int .i64 q.aF :: .int .i64 q.service :: .int .i64 q.aB :: .int .i64 q.aA :: .slice q.A q.n q.c :: uP l
theorem aaU (l:List Q):(uP l).length=l.length * 7:=by
 induction l with
 | nil=>rfl
 | cons p l ih=>simp [uP,ih];omega
theorem aaT (l:List Q):∀ (k:Nat) (q:Q),l[k]? = some q->∀ j,j < 7->(uP l)[k * 7 + j]? = q.cells[j]?:=by
 induction l with
 | nil=>intro k p h;simp at h
 | cons q0 l ih =>
  intro k q h j hj;cases k with
  | zero =>
   simp at h;subst h;rcases j with _ | _ | _ | _ | _ | _ | _ | j <;> first | rfl | omega
  | succ k =>
   have:=ih k q (by simpa using h) j hj;rw [show (k + 1) * 7 + j=k * 7 + j + 1 + 1 + 1 + 1 + 1 + 1 + 1 by omega];simpa [uP] using this
def bW (w:World) (A:Option Addr) (n:Nat) (l:List Q):Prop:=n=l.length/\Rd w 7 A n (uP l)/\∀ q ∈ l,fB w q.A q.n q.l
theorem bW.below {w w':World} {A:Option Addr} {n:Nat} {l:List Q} (h:bW w A n l) (hb:Below w.heap.size w w'):bW w' A n l:=⟨h.1,h.2.1.below hb,λq hq=>(h.2.2 q hq).below hb⟩
theorem bW.at_ {w:World} {A:Option Addr} {n k:Nat} {l:List Q} (h:bW w A n l) (hk:k < n) :
  ∃ ad q,A=some ad/\l[k]? = some q/\fB w q.A q.n q.l/\w.cell? (ad.add (k * 7))=some (.int .i64 q.node) /\
   w.cell? ⟨(ad.add (k * 7)).block,(ad.add (k * 7)).off + 1,none⟩=some (.int .i64 q.room) /\
   w.cell? ⟨(ad.add (k * 7)).block,(ad.add (k * 7)).off + 2,none⟩=some (.int .i64 q.aF) /\
   w.cell? ⟨(ad.add (k * 7)).block,(ad.add (k * 7)).off + 3,none⟩=some (.int .i64 q.service) /\
   w.cell? ⟨(ad.add (k * 7)).block,(ad.add (k * 7)).off + 4,none⟩=some (.int .i64 q.aB) /\
   w.cell? ⟨(ad.add (k * 7)).block,(ad.add (k * 7)).off + 5,none⟩=some (.int .i64 q.aA) /\
   w.cell? ⟨(ad.add (k * 7)).block,(ad.add (k * 7)).off + 6,none⟩=some (.slice q.A q.n q.c):=by
 obtain ⟨e,hr,hq⟩:=h;obtain ⟨ad,hA,hc⟩:=hr.at_ hk;have hl:l[k]? = some (l[k]'(by omega)):=zF (by omega);have g:=aaT l k _ hl;refine ⟨ad,_,hA,hl,hq _ (List.getElem_mem _),?_⟩;have key:∀ j,j < 7->∀ u,(l[k]'(by omega)).cells[j]? = some u->w.cell? (ad.add (k * 7 + j))=some u:=by
  intro j hj u hu;obtain ⟨v,a,b⟩:=hc j hj;rw [g j hj,hu] at a;injection a with a;subst a;exact b
 refine ⟨by simpa using key 0 (by omega) _ rfl,?_,?_,?_,?_,?_,?_⟩
 ·rw [<-lZ _ _ _ (by omega)];exact key 1 (by omega) _ rfl
 ·rw [<-lZ _ _ _ (by omega)];exact key 2 (by omega) _ rfl
 ·rw [<-lZ _ _ _ (by omega)];exact key 3 (by omega) _ rfl
 ·rw [<-lZ _ _ _ (by omega)];exact key 4 (by omega) _ rfl
 ·rw [<-lZ _ _ _ (by omega)];exact key 5 (by omega) _ rfl
 ·rw [<-lZ _ _ _ (by omega)];exact key 6 (by omega) _ rfl
def Q.val (q:Q):Value:=.agg #[.int .i64 q.node,.int .i64 q.room,.int .i64 q.aF,.int .i64 q.service,.int .i64 q.aB,.int .i64 q.aA,.slice q.A q.n q.c]
structure S where
 day:Int
 ag:Int
 start:Int
 end_:Int
 aj:Int
 A:Option Addr
 n:Nat
 c:Nat
 l:List Int
namespace H
def uJ (t s:Int) (p:Int × Int):Bool:=decide (p.1<=t) && decide (t + s<=p.2)
def fits (l:List (Int × Int)) (t s:Int):Bool:=minute t && minute s && decide (t + s<=1000000) && (l.any (uJ t s) || decide (l.length=0))
def sH (l:List (Int × Int)) (t s:Int):List (Int × Int)->Int × Bool
 | []=>(0,false)
 | p :: r=>if decide (t<=p.1) && fits l p.1 s then (p.1,true) else sH l t s r
def o8 (l:List (Int × Int)) (t s:Int):Int × Bool :=
 if right l && minute t && minute s then (if fits l t s then (t,true) else sH l t s l) else (0,false)
theorem zJ {t:Int}:minute t=true ↔ 0<=t/\t<=1000000:=by simp [minute]
theorem wJ {l:List (Int × Int)} {t s:Int}:fits l t s=true ↔ (0<=t/\t<=1000000)/\(0<=s/\s<=1000000)/\t + s<=1000000/\((∃ p ∈ l,p.1<=t/\t + s<=p.2)\/l=[]):=by
 simp only [fits,Bool.and_eq_true,Bool.or_eq_true,zJ,decide_eq_true_eq,List.any_eq_true,uJ,List.length_eq_zero_iff];constructor
 ·rintro ⟨⟨⟨h1,h2⟩,h3⟩,h4⟩;exact ⟨h1,h2,h3,h4⟩
 ·rintro ⟨h1,h2,h3,h4⟩;exact ⟨⟨⟨h1,h2⟩,h3⟩,h4⟩
theorem aa_ {l:List (Int × Int)}:right l=true ↔ rightFrom (-1) l=true/\l.length<=6:=by simp [right]
theorem ai7 {b:Int} {l:List (Int × Int)} (h:rightFrom b l=true) {p q:Int × Int} (hp:p ∈ l) (hq:q ∈ l) {t:Int} (h1:p.1<=t) (h2:t<=p.2) (h3:q.1<=t) (h4:t<=q.2):p=q:=by
 induction l generalizing b with
 | nil=>cases hp
 | cons x l ih =>
  have hx:=h;simp only [rightFrom,Bool.and_eq_true] at hx;obtain ⟨_,hr⟩:=hx;have hbd:=BU hr;rcases List.mem_cons.1 hp with rfl | hp' <;> rcases List.mem_cons.1 hq with rfl | hq'
  ·rfl
  ·have:=(hbd q hq').2.2.2;omega
  ·have:=(hbd p hp').2.2.2;omega
  ·exact ih hr hp' hq'
theorem aeA {l:List (Int × Int)} (h:rightFrom (-1) l=true) {p:Int × Int} (hp:p ∈ l) {t s:Int} (hs:0<=s/\s<=1000000) (h0:0<=t) (u:Int) (hu:t<=u/\u<=t + s) (h1:p.1<=u) (h2:u<=p.2) :
  fits l t s=true ↔ p.1<=t/\t + s<=p.2:=by
 have hb:=BU h p hp;rw [wJ];constructor
 ·rintro ⟨_,_,_,h4⟩;rcases h4 with ⟨q,hq,h5,h6⟩ | h4
  ·have e:=ai7 h hp hq (t:=u) h1 h2 (by omega) (by omega);subst e;exact ⟨h5,h6⟩
  ·subst h4;cases hp
 ·rintro ⟨h3,h4⟩;exact ⟨by omega,hs,by omega,.inl ⟨p,hp,h3,h4⟩⟩
theorem aes {b t s:Int} {l:List (Int × Int)} (h:rightFrom b l=true) (hs:0<=s) {q:Int × Int} (hq:q ∈ l) (h1:q.1<=t) (h2:t + s<=q.2):fC t s l=(t,true):=by
 induction l generalizing b with
 | nil=>cases hq
 | cons x l ih =>
  have hx:=h;simp only [rightFrom,Bool.and_eq_true] at hx;obtain ⟨_,hr⟩:=hx;have hbd:=BU hr;rcases List.mem_cons.1 hq with rfl | hq'
  ·have e:max t q.1=t:=by omega
   simp only [fC,e];rw [if_pos h2]
  ·have h3:=(hbd q hq').2.2.2;simp only [fC];rw [if_neg (by omega)];exact ih hr hq'
theorem aeu {t s:Int} {l r:List (Int × Int)} (h:rightFrom (-1) l=true) (ht:0<=t/\t<=1000000) (hs:0<=s/\s<=1000000) (hno:fits l t s=false) (hr:∀ p ∈ r,p ∈ l):fC t s r=sH l t s r:=by
 induction r with
 | nil=>rfl
 | cons p r ih =>
  have hp:=hr p (List.mem_cons_self ..);have hb:=BU h p hp;have ih':=ih (λq hq=>hr q (List.mem_cons_of_mem _ hq));have ha:=aeA h hp hs (t:=p.1) hb.1 p.1 (by omega) (by omega) (by omega);simp only [fC,sH];by_cases hc:t<=p.1
  ·have e:max t p.1=p.1:=by omega
   rw [e];by_cases hf:p.1 + s<=p.2
   ·have:fits l p.1 s=true:=ha.2 ⟨by omega,hf⟩;rw [if_pos hf,if_pos (by simp [hc,this])]
   ·have:fits l p.1 s=false:=by
     cases hk:fits l p.1 s
     ·rfl
     ·exact absurd (ha.1 hk).2 hf
    rw [if_neg hf,if_neg (by simp [this])];exact ih'
  ·have e:max t p.1=t:=by omega
   rw [e,if_neg (c:=(decide (t<=p.1) && fits l p.1 s)=true) (by simp [hc])];by_cases hf:t + s<=p.2
   ·exfalso;have:fits l t s=true:=wJ.2 ⟨ht,hs,by omega,.inl ⟨p,hp,by omega,hf⟩⟩;rw [this] at hno;cases hno
   ·rw [if_neg hf];exact ih'
theorem aew (l:List (Int × Int)) (t s:Int):fit l t s=o8 l t s:=by
 unfold fit o8;by_cases h:(right l && minute t && minute s)=true
 ·rw [if_pos h,if_pos h];simp only [Bool.and_eq_true] at h;obtain ⟨⟨h1,h2⟩,h3⟩:=h;rw [zJ] at h2 h3;have hr:=(aa_.1 h1).1;cases l with
  | nil =>
   simp only [all,List.length_nil,if_pos];have e:max t 0=t:=by omega
   simp only [fC,e,sH];by_cases hf:t + s<=1000000
   ·rw [if_pos hf,if_pos (wJ.2 ⟨h2,h3,hf,.inr rfl⟩)]
   ·rw [if_neg hf,if_neg (λhk=>hf (wJ.1 hk).2.2.1)]
  | cons x l =>
   have ea:all (x :: l)=x :: l:=by simp [all]
   rw [ea];cases hf:fits (x :: l) t s
   ·simp only [Bool.false_eq_true,if_false];exact aeu hr h2 h3 hf (λ_ hp=>hp)
   ·simp only [if_true];obtain ⟨_,_,_,h4⟩:=wJ.1 hf;rcases h4 with ⟨q,hq,h5,h6⟩ | h4
    ·exact aes hr h3.1 hq h5 h6
    ·cases h4
 ·rw [if_neg h,if_neg h]
end H
theorem VE {w:World} {A:Option Addr} {n k:Nat} {l:List (Int × Int)} (h:fB w A n l) (hk:¬ k < n):l.drop k=[]:=List.drop_eq_nil_of_le (by rw [<-h.1];omega)
theorem Ko (A:Option Addr) (n c:Nat) (l:List (Int × Int)) (t s:Int) (w:World) (hl:fB w A n l) (hn:n<=1000000000) :
  Calls Tryz.prog 208 #[.slice A n c,.int .i64 t,.int .i64 s] w λe w'=>e=.returned (.bool (H.fits l t s))/\w=w':=by
 cases hm:H.minute t
 ·have HF:=zC (show H.fits l t s=false by simp [H.fits,hm]);go_enter Tryz.func208,Tryz.ntmps208;go_wp2_with (go_at_call 207;refine (uV _ _).mono ?_;rintro e w1 ⟨rfl,rfl⟩);go_ret;exact ⟨ay HF.out.symm,rfl⟩
 ·cases hm2:H.minute s
  ·have HF:=zC (show H.fits l t s=false by simp [H.fits,hm2]);go_enter Tryz.func208,Tryz.ntmps208;go_wp2_with (go_at_call 207;refine (uV _ _).mono ?_;rintro e w1 ⟨rfl,rfl⟩);go_ret;exact ⟨ay HF.out.symm,rfl⟩
  ·obtain ⟨t0,t1⟩:=H.zJ.1 hm;obtain ⟨s0,s1⟩:=H.zJ.1 hm2;by_cases hts:t + s<=1000000
   ·have HF:=zC (show H.fits l t s=(l.any (H.uJ t s) || decide (l.length=0)) by simp [H.fits,hm,hm2,hts]);go_enter Tryz.func208,Tryz.ntmps208;go_wp2_with (go_at_call 207;refine (uV _ _).mono ?_;rintro e w1 ⟨rfl,rfl⟩);go_loop [7] (λvi=>∃ k:Nat,vi=.int .i64 k/\k<=n/\Hid (l.any (H.uJ t s)=(l.drop k).any (H.uJ t s))) (λvi=>n - (intOf vi).toNat)
    case atStart=>exact ⟨0,rfl,by omega,by show _=_;rw [List.drop_zero]⟩
    case round =>
     obtain ⟨k,rfl,hk,hr⟩:=hrel;by_cases hlt:k < n
     ·obtain ⟨ad,o,d,rfl,hg,c0,c1⟩:=hl.at_ hlt;have HS:=zC (lJ (p:=H.uJ t s) hg);clear hg;by_cases h1:o<=t
      ·by_cases h2:t + s<=d
       ·go_wp2
        go_ret;exact ⟨ay (by rw [HF.out,hr.out,HS.out];simp [H.uJ,h1,h2]),rfl⟩
       ·go_wp2
        go_round
        case rel=>exact ⟨k + 1,by go_num,by omega,by show _=_;rw [hr.out,HS.out];simp [H.uJ];omega⟩
        case measure=>simp [intOf];omega
      ·have h1':decide (o<=t)=false:=by simpa using h1
       go_wp2
       go_round
       case rel=>exact ⟨k + 1,by go_num,by omega,by show _=_;rw [hr.out,HS.out];simp [H.uJ];omega⟩
       case measure=>simp [intOf];omega
     ·have HD:=zC (VE hl hlt);go_wp2
      go_ret;refine ⟨ay ?_,rfl⟩;rw [HF.out,hr.out,HD.out,<-hl.1,Bool.eq_iff_iff];simp
   ·have HF:=zC (show H.fits l t s=false by simp [H.fits,hts]);go_enter Tryz.func208,Tryz.ntmps208;go_wp2_with (go_at_call 207;refine (uV _ _).mono ?_;rintro e w1 ⟨rfl,rfl⟩);go_ret;exact ⟨ay HF.out.symm,rfl⟩
theorem aeI (a b c:Bool):(a=false)\/(a=true/\b=false)\/(a=true/\b=true/\c=false)\/(a=true/\b=true/\c=true):=by
 cases a <;> cases b <;> cases c <;> simp
theorem aiv {l:List (Int × Int)} {t s o c:Int} {r:List (Int × Int)} {k:Nat} (h:r[k]? = some (o,c)) :
  H.sH l t s (r.drop k)=if decide (t<=o) && H.fits l o s then (o,true) else H.sH l t s (r.drop (k + 1)):=by
 obtain ⟨hk,e⟩:=zE.1 h;rw [List.drop_eq_getElem_cons hk,e];rfl
theorem aa6 (A:Option Addr) (n c:Nat) (l:List (Int × Int)) (t s:Int) (w:World) (hl:fB w A n l) (hn:n<=1000000000) :
  Calls Tryz.prog 185 #[.slice A n c,.int .i64 t,.int .i64 s] w λe w'=>e=.returned (.tuple #[.int .i64 (H.fit l t s).1,.bool (H.fit l t s).2])/\Below w.heap.size w w':=by
 rw [H.aew];rcases aeI (H.right l) (H.minute t) (H.minute s) with k1 | ⟨k1,k2⟩ | ⟨k1,k2,k3⟩ | ⟨k1,k2,k3⟩
 ·have HF:=zC (show H.o8 l t s=(0,false) by simp [H.o8,k1]);go_enter Tryz.func185,Tryz.ntmps185;go_wp2_with (first | (go_at_call 198;refine (zT _ _ _ l _ hl hn).mono ?_;rintro e w1 ⟨rfl,hb⟩) | (go_at_call 207;refine (uV _ _).mono ?_;rintro e w2 ⟨rfl,rfl⟩));go_ret2
  exact ⟨uU HF.out,hb⟩
 ·have HF:=zC (show H.o8 l t s=(0,false) by simp [H.o8,k2]);go_enter Tryz.func185,Tryz.ntmps185;go_wp2_with (first | (go_at_call 198;refine (zT _ _ _ l _ hl hn).mono ?_;rintro e w1 ⟨rfl,hb⟩) | (go_at_call 207;refine (uV _ _).mono ?_;rintro e w2 ⟨rfl,rfl⟩));go_ret2
  exact ⟨uU HF.out,hb⟩
 ·have HF:=zC (show H.o8 l t s=(0,false) by simp [H.o8,k3]);go_enter Tryz.func185,Tryz.ntmps185;go_wp2_with (first | (go_at_call 198;refine (zT _ _ _ l _ hl hn).mono ?_;rintro e w1 ⟨rfl,hb⟩) | (go_at_call 207;refine (uV _ _).mono ?_;rintro e w2 ⟨rfl,rfl⟩));go_ret2
  exact ⟨uU HF.out,hb⟩
 ·cases kf:H.fits l t s
  ·have HF:=zC (show H.o8 l t s=H.sH l t s l by simp [H.o8,k1,k2,k3,kf]);go_enter Tryz.func185,Tryz.ntmps185;go_wp2_with (first
    | (go_at_call 198;refine (zT _ _ _ l _ hl hn).mono ?_;rintro e w1 ⟨rfl,hb⟩)
    | (go_at_call 207;refine (uV _ _).mono ?_;rintro e w2 ⟨rfl,rfl⟩)
    | (go_at_call 208;refine (Ko _ _ _ l _ _ _ (hl.below hb) hn).mono ?_;rintro e w2 ⟨rfl,rfl⟩))
   have hl1:=hl.below hb;go_loop [8] (λvi=>∃ k:Nat,vi=.int .i64 k/\k<=n/\Hid (H.sH l t s l=H.sH l t s (l.drop k))) (λvi=>n - (intOf vi).toNat)
   case atStart=>exact ⟨0,rfl,by omega,by show _=_;rw [List.drop_zero]⟩
   case round =>
    obtain ⟨k,rfl,hk,hr⟩:=hrel;by_cases hlt:k < n
    ·obtain ⟨ad,o,d,rfl,hg,c0,c1⟩:=hl1.at_ hlt;have HS:=zC (aiv (l:=l) (t:=t) (s:=s) hg);clear hg;by_cases h1:t<=o
     ·cases hf2:H.fits l o s
      ·go_wp2_with (go_at_call 208;refine (Ko _ _ _ l _ _ _ hl1 hn).mono ?_;rintro e w2 ⟨rfl,rfl⟩);go_round
       case rel=>exact ⟨k + 1,by go_num,by omega,by show _=_;rw [hr.out,HS.out];simp [hf2]⟩
       case measure=>simp [intOf];omega
      ·go_wp2_with (go_at_call 208;refine (Ko _ _ _ l _ _ _ hl1 hn).mono ?_;rintro e w2 ⟨rfl,rfl⟩);go_ret2
       exact ⟨uU (by rw [HF.out,hr.out,HS.out];simp [h1,hf2]),hb⟩
     ·have h1':decide (t<=o)=false:=by simpa using h1
      go_wp2
      go_round
      case rel=>exact ⟨k + 1,by go_num,by omega,by show _=_;rw [hr.out,HS.out];simp;intro;omega⟩
      case measure=>simp [intOf];omega
    ·have HD:=zC (VE hl1 hlt);go_wp2
     go_ret2
     exact ⟨uU (by rw [HF.out,hr.out,HD.out];rfl),hb⟩
  ·have HF:=zC (show H.o8 l t s=(t,true) by simp [H.o8,k1,k2,k3,kf]);go_enter Tryz.func185,Tryz.ntmps185;go_wp2_with (first
    | (go_at_call 198;refine (zT _ _ _ l _ hl hn).mono ?_;rintro e w1 ⟨rfl,hb⟩)
    | (go_at_call 207;refine (uV _ _).mono ?_;rintro e w2 ⟨rfl,rfl⟩)
    | (go_at_call 208;refine (Ko _ _ _ l _ _ _ (hl.below hb) hn).mono ?_;rintro e w2 ⟨rfl,rfl⟩))
   go_ret2
   exact ⟨uU HF.out,hb⟩
theorem aiY {P:Program} (w:World) (base:Nat) (t ty e:TypeId) (i:TypeInfo) (size:Nat) (ht:P.underlying t=some (.slice e)) (hi:P.info? e=some i)
  (v:Value) (n:Nat) (xs:List Value) (hown:w.ownsRow base e size v n xs) (c:Nat):(Builtin.append_ #[t,t] ty #[v,.slice none 0 c]).run P w=.ok v w:=by
 rcases hown.2 with ⟨rfl,rfl⟩ | ⟨g,cap,cur,rfl,_,_,hnc,_⟩
 ·simp [Builtin.append_,run_underlying ht,sizeOf,typeInfo,hi,Builtin.lenOf,Builtin.firstCells]
 ·simp [Builtin.append_,run_underlying ht,sizeOf,typeInfo,hi,Builtin.lenOf,Builtin.firstCells,hnc,storeCells]
theorem abu {P:Program} (w:World) (base:Nat) (t ty e:TypeId) (i:TypeInfo) (z:Value) (size bytes:Nat) (ht:P.underlying t=some (.slice e)) (hi:P.info? e=some i) (hz:i.zero=some z)
  (hsize:i.size=size) (hby:i.bytes=bytes) (hzs:z.cells.size=size) (hsz:0 < size)
  (v:Value) (n:Nat) (xs:List Value) (hown:w.ownsRow base e size v n xs)
  (A:Option Addr) (m c:Nat) (news:List Value) (hr:Rd w size A m news) (h1:∀ u ∈ news,u.oneCell'=true)
  (h63:n + m<=maxLen) (hbytes:(n + m) * bytes<=140737488355328) (hbase:base<=w.heap.size) :
  ∃ v' w',(Builtin.append_ #[t,t] ty #[v,.slice A m c]).run P w=.ok v' w'/\w'.ownsRow base e size v' (n + m) (xs ++ news)/\w.grownBy w' v.ownBlock /\
   (v'.ownBlock=v.ownBlock\/v'.ownBlock=some w.heap.size):=by
 rcases A with _ | ad
 ·have hm:m=0:=by
   rcases Nat.eq_zero_or_pos m with h0 | h0
   ·exact h0
   ·obtain ⟨ad,h,_⟩:=hr.2 h0;cases h
  subst hm;have hn:news=[]:=List.eq_nil_of_length_eq_zero (by simpa using hr.1);subst hn;exact ⟨v,w,aiY w base t ty e i size ht hi v n xs hown c,by simpa using hown,World.grownBy.refl w _,.inl rfl⟩
 ·have hcells:∀ j u,news[j]? = some u->w.cell? (ad.add j)=some u:=by
   intro j u hu;rcases Nat.eq_zero_or_pos m with h0 | h0
   ·subst h0;have hn:news=[]:=List.eq_nil_of_length_eq_zero (by simpa using hr.1);subst hn;simp at hu
   ·obtain ⟨ad',h,hc⟩:=hr.2 h0;injection h with h;subst h;exact hc j u hu
  obtain ⟨v',w',hrun,h2,h3,_,h5⟩:=run_append_own_at (P:=P) w base t ty e i z size bytes ht hi hz hsize hby hzs hsz v n xs hown ad m c news hr.1 hcells h1 h63 hbytes hbase;exact ⟨v',w',hrun,h2,h3,h5⟩
theorem jW {P:Program} {w:World} {ops:Array Oper} {rest:List Oper} {o:Oper} {a:Act} {Q:Exit->Act->World->Prop} (hgd:o.guard=none) (s x:Operand) (t:TypeId)
  (ho:o.op=.call { callee:=.builtin .append,args:=#[s,x],argTypes:=#[t,t] })
  (base:Nat) (e:TypeId) (i:TypeInfo) (z:Value) (size bytes:Nat) (ht:P.underlying t=some (.slice e)) (hi:P.info? e=some i) (hz:i.zero=some z)
  (hsize:i.size=size) (hby:i.bytes=bytes) (hzs:z.cells.size=size) (hsz:0 < size)
  (v:Value) (n:Nat) (xs:List Value) (hs:a.eval s=v) (hown:w.ownsRow base e size v n xs)
  (A:Option Addr) (m c:Nat) (news:List Value) (hx:a.eval x=.slice A m c) (hr:Rd w size A m news) (h1:∀ u ∈ news,u.oneCell'=true)
  (h63:n + m<=maxLen) (hbytes:(n + m) * bytes<=140737488355328) (hbase:base<=w.heap.size)
  (h:∀ v' w',w'.ownsRow base e size v' (n + m) (xs ++ news)->w.grownBy w' v.ownBlock->(v'.ownBlock=v.ownBlock\/v'.ownBlock=some w.heap.size)->wpList P ops Q rest (a.put o.dst v') w'):wpList P ops Q (o :: rest) a w:=by
 refine wpList_plain hgd λK hK=>?_;obtain ⟨v',w',hrun,h2,h3,h4⟩:=abu (P:=P) w base t o.type e i z size bytes ht hi hz hsize hby hzs hsz v n xs hown A m c news hr h1 h63 hbytes hbase;unfold Oper.wp execOp;simp only [ho,resolve,invoke,builtin,Sem.run_bind,Sem.run_pure,Result.andThen_ok,List.map_toArray,List.map_cons,List.map_nil,hs,hx,hrun];exact hK _ _ (h v' w' h2 h3 h4)
namespace H
theorem aiw {l:List (Int × Int)} (h:right l=true):rightFrom (-1) (all l)=true:=by
 unfold all;split
 ·rfl
 ·exact (aa_.1 h).1
theorem aet {b t s:Int} {l:List (Int × Int)} (h:rightFrom b l=true) (hs:0<=s) :
  ((fC t s l).2=true->(∃ q ∈ l,q.1<=(fC t s l).1/\(fC t s l).1 + s<=q.2)/\t<=(fC t s l).1) /\
  (∀ x,t<=x->∀ q ∈ l,q.1<=x->x + s<=q.2->(fC t s l).2=true/\(fC t s l).1<=x):=by
 induction l generalizing b with
 | nil=>exact ⟨λh=>(by cases h),λx _ q hq=>(by cases hq)⟩
 | cons p l ih =>
  have hx:=h;simp only [rightFrom,Bool.and_eq_true] at hx;obtain ⟨_,hr⟩:=hx;have hbd:=BU hr;obtain ⟨i1,i2⟩:=ih hr;simp only [fC];by_cases hf:max t p.1 + s<=p.2
  ·rw [if_pos hf];refine ⟨λ_=>⟨⟨p,List.mem_cons_self ..,by simp;omega,hf⟩,by simp;omega⟩,λx hx q hq h1 h2=>⟨rfl,?_⟩⟩;show max t p.1<=x;rcases List.mem_cons.1 hq with rfl | hq'
   ·omega
   ·have:=(hbd q hq').2.2.2;omega
  ·rw [if_neg hf];refine ⟨λh'=>?_,λx hx q hq h1 h2=>?_⟩
   ·obtain ⟨⟨q,hq,h1,h2⟩,h3⟩:=i1 h';exact ⟨⟨q,List.mem_cons_of_mem _ hq,h1,h2⟩,h3⟩
   ·rcases List.mem_cons.1 hq with rfl | hq'
    ·omega
    ·exact i2 x hx q hq' h1 h2
theorem aez {l:List (Int × Int)} {t s:Int} (hr:right l=true) (ht:0<=t/\t<=1000000) (hs:0<=s/\s<=1000000):fit l t s=fC t s (all l):=by
 unfold fit;rw [if_pos (by simp only [Bool.and_eq_true,zJ];exact ⟨⟨hr,ht⟩,hs⟩)]
def At (l:List (Int × Int)) (x s:Int):Prop:=∃ q ∈ all l,q.1<=x/\x + s<=q.2
theorem VS {l:List (Int × Int)} {t s:Int} (hr:right l=true) (ht:0<=t/\t<=1000000) (hs:0<=s/\s<=1000000) :
  ((fit l t s).2=true->At l (fit l t s).1 s/\t<=(fit l t s).1)/\(∀ x,t<=x->At l x s->(fit l t s).2=true/\(fit l t s).1<=x):=by
 rw [aez hr ht hs];obtain ⟨h1,h2⟩:=aet (t:=t) (aiw hr) hs.1;exact ⟨h1,λx hx ⟨q,hq,a,b⟩=>h2 x hx q hq a b⟩
theorem Ig {l:List (Int × Int)} {t s o:Int} (hr:right l=true) (ht:0<=t/\t<=1000000) (hs:0<=s/\s<=1000000) (ho:t<=o/\o<=1000000) :
  ((fit l o s).2=true->(fit l t s).2=true/\(fit l t s).1<=(fit l o s).1)/\((fit l t s).2=true->o<=(fit l t s).1->(fit l o s).2=true/\(fit l o s).1=(fit l t s).1):=by
 obtain ⟨a1,a2⟩:=VS (t:=t) hr ht hs;obtain ⟨b1,b2⟩:=VS (t:=o) hr (by omega) hs;refine ⟨λh=>?_,λh h'=>?_⟩
 ·obtain ⟨c1,c2⟩:=b1 h;exact a2 _ (by omega) c1
 ·obtain ⟨c1,c2⟩:=a1 h;obtain ⟨d1,d2⟩:=b2 _ h' c1;obtain ⟨e1,e2⟩:=b1 d1;have:=(a2 _ (by omega) e1).2;exact ⟨d1,by omega⟩
end H
end Go.Proofs.YtippdjmpkafifaaGreat
