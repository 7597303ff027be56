import Derived.Test.YtippdjmpkafifaaGreatCT14
import Derived.Test.YtippdjmpkafifaaGreatCT6
import Derived.Test.YtippdjmpkafifaaGreatCT13
import Derived.Test.YtippdjmpkafifaaGreatCT10
set_option maxRecDepth 100000
set_option maxHeartbeats 64000000
namespace Go.Proofs.YtippdjmpkafifaaGreat
open Go.RowKit
theorem J_ {fn:Func} {t u v x:Tmp} (h:fn.results=#[.tmp t,.tmp u,.tmp v,.tmp x]) (tmps:Array Value) (P:Program) (w:World) :
  (results fn tmps).run P w=.ok (.tuple #[tmps.getD t undef,tmps.getD u undef,tmps.getD v undef,tmps.getD x undef]) w:=by simp [results,h]
def Ft (A:Option Addr) (n:Nat) (g:Nat):Prop:=0 < n/\∃ ad,A=some ad/\ad.block=g
def Sm (w w':World) (U:Nat->Prop):Prop:=∀ g,U g->g < w.heap.size->w'.heap[g]? = w.heap[g]?
theorem Rd.sm {w w':World} {s n:Nat} {A:Option Addr} {xs:List Value} (h:Rd w s A n xs) (hs:Sm w w' (Ft A n)):Rd w' s A n xs:=by
 refine ⟨h.1,λh0=>?_⟩;obtain ⟨ad,e,hc⟩:=h.2 h0;refine ⟨ad,e,λj u hu=>?_⟩;have c:=hc j u hu;have hl:=cell_lt c;rw [add_block] at hl;exact (World.cell?_of_block (by rw [add_block];exact hs _ ⟨h0,ad,e,rfl⟩ hl)).trans c
theorem Rd.jC {w:World} {s n:Nat} {A:Option Addr} {xs:List Value} (h:Rd w s A n xs) (h0s:0 < s) {g:Nat} (hg:Ft A n g):g < w.heap.size:=by
 obtain ⟨h0,ad,e,rfl⟩:=hg;obtain ⟨ad',e',hc⟩:=h.2 h0;rw [e] at e';injection e' with e';subst e';have hl:0 < xs.length:=by rw [h.1];exact Nat.mul_pos h0 h0s
 have c:=hc 0 _ (zF hl);have:=cell_lt c;rwa [add_block] at this
theorem Sm.mono {w w':World} {U V:Nat->Prop} (h:Sm w w' U) (hV:∀ g,V g->U g):Sm w w' V:=λg hg=>h g (hV g hg)
theorem Sm.grown {w w':World} {U:Nat->Prop} {v:Value} (hg:w.grownBy w' v.ownBlock) (h:∀ g,U g->v.ownBlock ≠ some g):Sm w w' U:=λg hu hl=>hg.block g hl λe=>h g hu e.symm
def UT (A:Option Addr) (n:Nat) (ts:List TV) (g:Nat):Prop:=Ft A n g\/∃ y ∈ ts,Ft y.A y.n g\/Ft y.A' y.n' g
def UQ (A:Option Addr) (n:Nat) (r:List Q) (g:Nat):Prop:=Ft A n g\/∃ q ∈ r,Ft q.A q.n g
def UB (A:Option Addr) (n:Nat) (bl:List BV) (g:Nat):Prop:=Ft A n g\/∃ y ∈ bl,Ft y.V y.vn g\/Ft y.LA y.ln g
theorem dY.sm {w w':World} {A:Option Addr} {n:Nat} {ts:List TV} (h:dY w A n ts) (hs:Sm w w' (UT A n ts)):dY w' A n ts :=
 ⟨⟨h.1.1,h.1.2.sm (hs.mono λ_ e=>.inl e)⟩,λy hy=>⟨⟨(h.2 y hy).1.1,(h.2 y hy).1.2.sm (hs.mono λ_ e=>.inr ⟨y,hy,.inl e⟩)⟩,⟨(h.2 y hy).2.1,(h.2 y hy).2.2.sm (hs.mono λ_ e=>.inr ⟨y,hy,.inr e⟩)⟩⟩⟩
theorem dY.jC {w:World} {A:Option Addr} {n:Nat} {ts:List TV} (h:dY w A n ts) {g:Nat} (hg:UT A n ts g):g < w.heap.size:=by
 rcases hg with e | ⟨y,hy,e | e⟩
 ·exact h.1.2.jC (by decide) e
 ·exact (h.2 y hy).1.2.jC (by decide) e
 ·exact (h.2 y hy).2.2.jC (by decide) e
theorem bW.sm {w w':World} {A:Option Addr} {n:Nat} {r:List Q} (h:bW w A n r) (hs:Sm w w' (UQ A n r)):bW w' A n r :=
 ⟨h.1,h.2.1.sm (hs.mono λ_ e=>.inl e),λq hq=>⟨(h.2.2 q hq).1,(h.2.2 q hq).2.sm (hs.mono λ_ e=>.inr ⟨q,hq,e⟩)⟩⟩
theorem bW.jC {w:World} {A:Option Addr} {n:Nat} {r:List Q} (h:bW w A n r) {g:Nat} (hg:UQ A n r g):g < w.heap.size:=by
 rcases hg with e | ⟨q,hq,e⟩
 ·exact h.2.1.jC (by decide) e
 ·exact (h.2.2 q hq).2.jC (by decide) e
theorem fA.sm {w w':World} {A:Option Addr} {n:Nat} {bl:List BV} (h:fA w A n bl) (hs:Sm w w' (UB A n bl)):fA w' A n bl :=
 ⟨⟨h.1.1,h.1.2.sm (hs.mono λ_ e=>.inl e)⟩,λy hy=>⟨⟨(h.2 y hy).1.1,(h.2 y hy).1.2.sm (hs.mono λ_ e=>.inr ⟨y,hy,.inl e⟩)⟩,⟨(h.2 y hy).2.1,(h.2 y hy).2.2.sm (hs.mono λ_ e=>.inr ⟨y,hy,.inr e⟩)⟩⟩⟩
theorem fA.jC {w:World} {A:Option Addr} {n:Nat} {bl:List BV} (h:fA w A n bl) {g:Nat} (hg:UB A n bl g):g < w.heap.size:=by
 rcases hg with e | ⟨y,hy,e | e⟩
 ·exact h.1.2.jC (by decide) e
 ·exact (h.2 y hy).1.2.jC (by decide) e
 ·exact (h.2 y hy).2.2.jC (by decide) e
structure RV where
 A:Option Addr
 n:Nat
 c:Nat
 bl:List BV
def RV.cells (y:RV):List Value:=[.slice y.A y.n y.c]
def RV.pr (y:RV):List (Int × List Int × List Lb):=y.bl.map BV.pr
def lD (w:World) (A:Option Addr) (n:Nat) (l:List RV):Prop:=aQ RV.cells 1 w A n l/\∀ y ∈ l,fA w y.A y.n y.bl
def Gi (n:Nat) (l:List RV):Prop:=n<=1000000/\∀ y ∈ l,sO y.n y.bl/\y.n<=y.c
theorem lD.below {w w':World} {A:Option Addr} {n:Nat} {l:List RV} (h:lD w A n l) (hb:Below w.heap.size w w'):lD w' A n l:=⟨aQ.below h.1 hb,λy hy=>(h.2 y hy).below hb⟩
structure KD where
 kept:List Int
 L:List RV
 TA:Option Addr
 tn:Nat
 tc:Nat
 ts:List TV
 SA:Option Addr
 sn:Nat
 sc:Nat
 sv:List Q
def KD.uses (d:KD) (g:Nat):Prop:=UT d.TA d.tn d.ts g\/UQ d.SA d.sn d.sv g\/∃ y ∈ d.L,UB y.A y.n y.bl g
structure ig (w:World) (B:Nat) (v4 v6:Value) (d:KD):Prop where
 row4:w.ownsRow B 3 1 v4 d.kept.length (intCells d.kept)
 qG:w.ownsRow B 28 1 v6 d.L.length (d.L.flatMap RV.cells)
 ne:∀ g,v4.ownBlock=some g->v6.ownBlock ≠ some g
 dG:dY w d.TA d.tn d.ts
 KJ:d.tn<=d.tc/\∀ y ∈ d.ts,y.n<=y.c
 served:bW w d.SA d.sn d.sv
 reasons:∀ y ∈ d.L,fA w y.A y.n y.bl
 few:∀ y ∈ d.L,sO y.n y.bl/\y.n<=y.c
 Fh:∀ g,d.uses g->v4.ownBlock ≠ some g
 Fj:∀ g,d.uses g->v6.ownBlock ≠ some g
theorem ig.below {w w':World} {B:Nat} {v4 v6:Value} {d:KD} (h:ig w B v4 v6 d) (hb:Below w.heap.size w w'):ig w' B v4 v6 d :=
 ⟨own_below h.row4 hb,own_below h.qG hb,h.ne,h.dG.below hb,h.KJ,h.served.below hb,λy hy=>(h.reasons y hy).below hb,h.few,h.Fh,h.Fj⟩
theorem ig.lt {w:World} {B:Nat} {v4 v6:Value} {d:KD} (h:ig w B v4 v6 d) {g:Nat} (hg:d.uses g):g < w.heap.size:=by
 rcases hg with e | e | ⟨y,hy,e⟩
 ·exact h.dG.jC e
 ·exact h.served.jC e
 ·exact (h.reasons y hy).jC e
theorem ig.zero (w:World) (B:Nat):ig w B (.slice none 0 0) (.slice none 0 0) ⟨[],[],none,0,0,[],none,0,0,[]⟩:=by
 have hn:∀ g,¬ KD.uses ⟨[],[],none,0,0,[],none,0,0,[]⟩ g:=by
  rintro g ((⟨h,-⟩ | ⟨y,hy,-⟩) | (⟨h,-⟩ | ⟨y,hy,-⟩) | ⟨y,hy,-⟩)
  ·exact absurd h (Nat.lt_irrefl 0)
  ·cases hy
  ·exact absurd h (Nat.lt_irrefl 0)
  ·cases hy
  ·cases hy
 exact ⟨World.ownsRow_nil _ _ _ _,World.ownsRow_nil _ _ _ _,λg e=>(by cases e),⟨⟨rfl,rfl,λh=>absurd h (by decide)⟩,λy h=>(by cases h)⟩,⟨zG _,λy h=>(by cases h)⟩,⟨rfl,⟨rfl,λh=>absurd h (by decide)⟩,λy h=>(by cases h)⟩,λy h=>(by cases h),λy h=>(by cases h),λg h=>absurd h (hn g),λg h=>absurd h (hn g)⟩
theorem ig.sm {w w':World} {B:Nat} {v4 v6:Value} {d:KD} (h:ig w B v4 v6 d) (hs:Sm w w' d.uses):dY w' d.TA d.tn d.ts/\bW w' d.SA d.sn d.sv/\∀ y ∈ d.L,fA w' y.A y.n y.bl :=
 ⟨h.dG.sm (hs.mono λ_ e=>.inl e),h.served.sm (hs.mono λ_ e=>.inr (.inl e)),λy hy=>(h.reasons y hy).sm (hs.mono λ_ e=>.inr (.inr ⟨y,hy,e⟩))⟩
theorem ZV {w:World} {v v':Value} {U:Nat->Prop} (h:∀ g,U g->v.ownBlock ≠ some g) (hl:∀ g,U g->g < w.heap.size) (ha:v'.ownBlock=v.ownBlock\/v'.ownBlock=some w.heap.size):∀ g,U g->v'.ownBlock ≠ some g:=λg hu e=>by
 rcases ha with e3 | e3
 ·exact h g hu (e3.symm.trans e)
 ·rw [e3] at e;injection e with e;have:=hl g hu;omega
theorem abl {w w':World} {base:Nat} {e:TypeId} {size n:Nat} {v u:Value} {xs:List Value} (h:w.ownsRow base e size v n xs) (hg:w.grownBy w' u.ownBlock) (hn:∀ g,v.ownBlock=some g->u.ownBlock ≠ some g):w'.ownsRow base e size v n xs:=by
 have hlt:=bG h;obtain ⟨hl,h1 | ⟨g,cap,cur,hv,hbg,hh,r⟩⟩:=h
 ·exact ⟨hl,.inl h1⟩
 ·have hb:v.ownBlock=some g:=by rw [hv];rfl
  exact ⟨hl,.inr ⟨g,cap,cur,hv,hbg,(hg.block g (hlt g hb).2 (λe=>hn g hb e.symm)).trans hh,r⟩⟩
theorem ig.UD {w w':World} {B:Nat} {v4 v6 v4':Value} {d:KD} (h:ig w B v4 v6 d) (hg:w.grownBy w' v4.ownBlock) (ha:v4'.ownBlock=v4.ownBlock\/v4'.ownBlock=some w.heap.size) {i:Int} (hr:w'.ownsRow B 3 1 v4' (d.kept.length + 1) (intCells (d.kept ++ [i]))) :
  ig w' B v4' v6 ⟨d.kept ++ [i],d.L,d.TA,d.tn,d.tc,d.ts,d.SA,d.sn,d.sc,d.sv⟩:=by
 obtain ⟨h1,h2,h3⟩:=h.sm (Sm.grown hg h.Fh);refine ⟨by show w'.ownsRow B 3 1 v4' (d.kept ++ [i]).length _;rw [List.length_append];exact hr,abl h.qG hg λg e e2=>h.ne g e2 e,λg e e2=>?_,h1,h.KJ,h2,h3,h.few,ZV h.Fh (λg hu=>h.lt hu) ha,h.Fj⟩;rcases ha with e3 | e3
 ·exact h.ne g (e3.symm.trans e) e2
 ·rw [e3] at e;injection e with e;have:=(bG h.qG g e2).2;omega
theorem ig.UE {w w':World} {B:Nat} {v4 v6 F5:Value} {d:KD} (h:ig w B v4 v6 d) (hg:w.grownBy w' v6.ownBlock) (ha:F5.ownBlock=v6.ownBlock\/F5.ownBlock=some w.heap.size) {y:RV} (hy:fA w y.A y.n y.bl) (hf:sO y.n y.bl/\y.n<=y.c)
  (ho4:∀ g,UB y.A y.n y.bl g->v4.ownBlock ≠ some g) (Ye:∀ g,UB y.A y.n y.bl g->v6.ownBlock ≠ some g) (hr:w'.ownsRow B 28 1 F5 (d.L.length + 1) ((d.L ++ [y]).flatMap RV.cells)) :
  ig w' B v4 F5 ⟨d.kept,d.L ++ [y],d.TA,d.tn,d.tc,d.ts,d.SA,d.sn,d.sc,d.sv⟩:=by
 obtain ⟨h1,h2,h3⟩:=h.sm (Sm.grown hg h.Fj);have hu:∀ g,KD.uses ⟨d.kept,d.L ++ [y],d.TA,d.tn,d.tc,d.ts,d.SA,d.sn,d.sc,d.sv⟩ g->d.uses g\/UB y.A y.n y.bl g:=by
  rintro g (e | e | ⟨z,hz,e⟩)
  ·exact .inl (.inl e)
  ·exact .inl (.inr (.inl e))
  ·rcases List.mem_append.1 hz with hz | hz
   ·exact .inl (.inr (.inr ⟨z,hz,e⟩))
   ·rw [List.mem_singleton.1 hz] at e;exact .inr e
 have g4:∀ g,KD.uses ⟨d.kept,d.L ++ [y],d.TA,d.tn,d.tc,d.ts,d.SA,d.sn,d.sc,d.sv⟩ g->v4.ownBlock ≠ some g:=λg hg=>(hu g hg).elim (h.Fh g) (ho4 g);have g6:∀ g,KD.uses ⟨d.kept,d.L ++ [y],d.TA,d.tn,d.tc,d.ts,d.SA,d.sn,d.sc,d.sv⟩ g->v6.ownBlock ≠ some g:=λg hg=>(hu g hg).elim (h.Fj g) (Ye g);refine ⟨abl h.row4 hg λg e e2=>h.ne g e e2,by show w'.ownsRow B 28 1 F5 (d.L ++ [y]).length _;rw [List.length_append];exact hr,λg e e2=>?_,h1,h.KJ,h2,λz hz=>?_,λz hz=>?_,g4,ZV g6 (λg hg=>(hu g hg).elim (λe=>h.lt e) hy.jC) ha⟩
 ·rcases ha with e3 | e3
  ·exact h.ne g e (e3.symm.trans e2)
  ·rw [e3] at e2;injection e2 with e2;have:=(bG h.row4 g e).2;omega
 ·rcases List.mem_append.1 hz with hz | hz
  ·exact h3 z hz
  ·rw [List.mem_singleton.1 hz];exact hy.sm (Sm.grown hg Ye)
 ·rcases List.mem_append.1 hz with hz | hz
  ·exact h.few z hz
  ·rw [List.mem_singleton.1 hz];exact hf
theorem ig.turn {w:World} {B:Nat} {v4 v6:Value} {d:KD} (h:ig w B v4 v6 d) {TA SA:Option Addr} {tn tc sn sc:Nat} {ts:List TV} {sv:List Q} (hT:dY w TA tn ts) (hc:tn<=tc/\∀ y ∈ ts,y.n<=y.c) (hS:bW w SA sn sv)
  (V5:∀ g,UT TA tn ts g->v4.ownBlock ≠ some g/\v6.ownBlock ≠ some g) (V4:∀ g,UQ SA sn sv g->v4.ownBlock ≠ some g/\v6.ownBlock ≠ some g):ig w B v4 v6 ⟨d.kept,d.L,TA,tn,tc,ts,SA,sn,sc,sv⟩ :=
 ⟨h.row4,h.qG,h.ne,hT,hc,hS,h.reasons,h.few,λg e=>by
  rcases e with e | e | e
  ·exact (V5 g e).1
  ·exact (V4 g e).1
  ·exact h.Fh g (.inr (.inr e)),λg e=>by
  rcases e with e | e | e
  ·exact (V5 g e).2
  ·exact (V4 g e).2
  ·exact h.Fj g (.inr (.inr e))⟩
theorem ig.new {w w1:World} {B:Nat} {v4 v6:Value} {d:KD} (h:ig w B v4 v6 d) (hb:Below w.heap.size w w1) {g:Nat} (hg:w1.heap.size<=g\/g < B):v4.ownBlock ≠ some g/\v6.ownBlock ≠ some g:=by
 have hz:=hb.size;refine ⟨λe=>?_,λe=>?_⟩
 ·have:=bG h.row4 g e;omega
 ·have:=bG h.qG g e;omega
theorem ahc {w:World} {A:Option Addr} {n:Nat} {ts:List TV} (hA:∀ ad,A=some ad->w.heap.size<=ad.block) (h:NT w ts):∀ g,UT A n ts g->w.heap.size<=g:=by
 rintro g (⟨-,ad,e,rfl⟩ | ⟨y,hy,⟨h0,ad,e,rfl⟩ | ⟨h0,ad,e,rfl⟩⟩)
 ·exact hA ad e
 ·exact (h y hy).1 h0 ad e
 ·exact (h y hy).2.1 h0 ad e
theorem ag1 {w:World} {A:Option Addr} {n:Nat} {bl:List BV} (hA:∀ ad,A=some ad->w.heap.size<=ad.block) (h:NB w bl):∀ g,UB A n bl g->w.heap.size<=g:=by
 rintro g (⟨-,ad,e,rfl⟩ | ⟨y,hy,⟨h0,ad,e,rfl⟩ | ⟨h0,ad,e,rfl⟩⟩)
 ·exact hA ad e
 ·exact (h y hy).1 h0 ad e
 ·exact (h y hy).2 h0 ad e
def GV (w w':World) (k:K.Kp) (er:Int) (e:Ending):Prop :=
 (∃ KA kn kc RA rn rc,∃ d:KD,e=.returned (.tuple #[.slice KA kn kc,.slice d.TA d.tn d.tc,.slice RA rn rc,.int .i64 er])/\Ints w' KA kn k.kept/\dY w' d.TA d.tn d.ts/\(d.tn<=d.tc/\∀ y ∈ d.ts,y.n<=y.c)/\sQ d.tn d.ts/\d.ts.map TV.pr=k.dG/\lD w' RA rn d.L/\Gi rn d.L/\d.L.map RV.pr=k.reasons)/\Below w.heap.size w w'
theorem air {w w':World} {er:Int} (hb:Below w.heap.size w w'):GV w w' K.Kp.zero er (.returned (.tuple #[.slice none 0 0,.slice none 0 0,.slice none 0 0,.int .i64 er])) :=
 ⟨⟨none,0,0,none,0,0,⟨[],[],none,0,0,[],none,0,0,[]⟩,rfl,⟨rfl,rfl,λh=>absurd h (by decide)⟩,⟨⟨rfl,rfl,λh=>absurd h (by decide)⟩,λy h=>(by cases h)⟩,⟨zG _,λy h=>(by cases h)⟩,⟨by decide,λy h=>(by cases h)⟩,rfl,⟨⟨rfl,rfl,λh=>absurd h (by decide)⟩,λy h=>(by cases h)⟩,⟨by decide,λy h=>(by cases h)⟩,rfl⟩,hb⟩
theorem Tryz.underlying65k:Tryz.prog.underlying 65=some (.slice 28):=by kernel_rfl
theorem Tryz.info28k:(Tryz.prog.info? 28).map (λi=>(i.zero,i.size,i.bytes))=some (some (.slice none 0 0),1,24):=by kernel_rfl
theorem FM {w:World} {x:Cs} (hx:bF w x) (hsn:x.sn<=1000000) (kK:∀ s ∈ x.ss,s.n<=1000000) {w':World} {A:Option Addr} {n:Nat} {L R:List S} (hR:R.Sublist x.ss) (hL:Shifts w' A n L) (hb:L.map S.bare=R.map S.bare) :
  n<=1000000/\∀ s ∈ L,s.n<=1000000:=by
 have h1:L.length=R.length:=by rw [<-List.length_map (f:=S.bare),hb,List.length_map]
 have h2:=hR.length_le;have h3:=hx.shifts.1.1;have h4:=hL.1.1;refine ⟨by omega,λs hs=>?_⟩;have h5:s.bare ∈ R.map S.bare:=by rw [<-hb];exact List.mem_map_of_mem hs
 obtain ⟨s',hs',e⟩:=List.mem_map.1 h5;have h6:=kK s' (hR.subset hs');have h7:=(hx.shifts.2 s' (hR.subset hs')).1;have h8:=(hL.2 s hs).1;have h9:s'.bare.l=s.bare.l:=by rw [e]
 change s'.l=s.l at h9;rw [h8,<-h9,<-h7];exact h6
theorem FI {nd:Int} {l:List Ro} {ss:List S} {r:List Q} {lost:List Int}:(K.jV nd l ss r lost).Sublist ss:=by
 unfold K.jV;split
 ·exact K.uS ss 0
 ·exact List.nil_sublist _
structure pR (nd:Int) (l:List Ro) (R:List S) (r:List Q) (i:Nat) (d:KD):Prop where
 kept:d.kept=(K.bV nd l R r i).kept
 sv:d.sv=(K.bV nd l R r i).served
 ts:d.ts.map TV.pr=(K.bV nd l R r i).dG
 rs:d.L.map RV.pr=(K.bV nd l R r i).reasons
 kl:d.kept.length<=i
 ll:d.L.length<=i
 sl:d.sn<=i
 inr:∀ q ∈ d.sv,q ∈ r
theorem pR.zero (nd:Int) (l:List Ro) (R:List S) (r:List Q):pR nd l R r 0 ⟨[],[],none,0,0,[],none,0,0,[]⟩ :=
 ⟨rfl,rfl,rfl,rfl,zG _,zG _,zG _,λq h=>(by cases h)⟩
theorem pR.yes {nd:Int} {l:List Ro} {R:List S} {r:List Q} {i:Nat} {d:KD} (h:pR nd l R r i d) {q:Q} (hq:r[i]? = some q) (hf:(K.plan nd l R (d.sv ++ [q])).2=0) {TA SA:Option Addr} {tn tc sc:Nat} {ts:List TV} (hts:ts.map TV.pr=(K.plan nd l R (d.sv ++ [q])).1.map λt=>((t.1:Int),t.2)) :
  pR nd l R r (i + 1) ⟨d.kept ++ [(i:Int)],d.L,TA,tn,tc,ts,SA,d.sn + 1,sc,d.sv ++ [q]⟩:=by
 have e:=K.xg (nd:=nd) (l:=l) (rest:=R) hq;have hy:K.kL nd l R (K.bV nd l R r i) q=true:=by unfold K.kL;rw [<-h.sv,hf];rfl
 unfold K.lm at e;rw [if_pos hy] at e;refine ⟨?_,?_,?_,?_,?_,?_,?_,?_⟩
 ·rw [e];show d.kept ++ _=_;rw [h.kept]
 ·rw [e];show d.sv ++ _=_;rw [h.sv]
 ·rw [e];show ts.map TV.pr=_;rw [hts,h.sv]
 ·rw [e];exact h.rs
 ·show (d.kept ++ [(i:Int)]).length<=i + 1;have:=h.kl;rw [List.length_append,List.length_singleton];omega
 ·have:=h.ll;show d.L.length<=i + 1;omega
 ·have:=h.sl;show d.sn + 1<=i + 1;omega
 ·intro p hp;rcases List.mem_append.1 hp with hp | hp
  ·exact h.inr p hp
  ·rw [List.mem_singleton.1 hp];exact zD hq
theorem pR.no {nd:Int} {l:List Ro} {R:List S} {r:List Q} {i:Nat} {d:KD} (h:pR nd l R r i d) {q:Q} (hq:r[i]? = some q) (hf:(K.plan nd l R (d.sv ++ [q])).2 ≠ 0) {y:RV} (hy:y.bl.map BV.pr=(K.refute nd l R (d.sv ++ [q])).1.map λb=>((b.1:Int),b.2)) :
  pR nd l R r (i + 1) ⟨d.kept,d.L ++ [y],d.TA,d.tn,d.tc,d.ts,d.SA,d.sn,d.sc,d.sv⟩:=by
 have e:=K.xg (nd:=nd) (l:=l) (rest:=R) hq;have hn:¬ K.kL nd l R (K.bV nd l R r i) q=true:=by unfold K.kL;rw [<-h.sv,beq_iff_eq];exact hf
 unfold K.lm at e;rw [if_neg hn] at e;refine ⟨?_,?_,?_,?_,?_,?_,?_,h.inr⟩
 ·rw [e];exact h.kept
 ·rw [e];exact h.sv
 ·rw [e];exact h.ts
 ·rw [e];show (d.L ++ [y]).map RV.pr=_;rw [List.map_append,h.rs,<-h.sv,<-hy];rfl
 ·have:=h.kl;show d.kept.length<=i + 1;omega
 ·show (d.L ++ [y]).length<=i + 1;have:=h.ll;rw [List.length_append,List.length_singleton];omega
 ·have:=h.sl;show d.sn<=i + 1;omega
theorem Qr (x:Cs) (LA:Option Addr) (ln lc:Nat) (lost:List Int) (w:World) (hx:bF w x) (hL:Ints w LA ln lost) (hln:ln<=1000000000) (hsn:x.sn<=1000000) (kK:∀ s ∈ x.ss,s.n<=1000000) :
  Calls Tryz.prog 47 #[.agg #[.int .i64 x.nd,.slice x.A x.n x.c,.slice x.SA x.sn x.sc,.slice x.B x.m x.d],.slice LA ln lc] w λe w'=>GV w w' (K.cZ x.nd x.l x.ss x.r lost).1 (K.cZ x.nd x.l x.ss x.r lost).2 e:=by
 obtain ⟨w1,hw1⟩:=zB (w.alloc (.cells #[.int .i64 x.nd,.slice x.A x.n x.c,.slice x.SA x.sn x.sc,.slice x.B x.m x.d] 44));obtain ⟨g,hg⟩:=zB w.heap.size;have b1:=zA hw1;have hN1:ja w1 g x:=by rw [hw1,hg];exact ja.new _ _
 have p0:=af hN1 0 _ rfl;have p1:=af hN1 1 _ rfl;have p2:=af hN1 2 _ rfl;have p3:=af hN1 3 _ rfl;have CR:=FK x LA ln lc lost w1 (hx.below b1) (hL.below b1) hln hsn kK;obtain ⟨KK,oH⟩:=zB (K.cZ x.nd x.l x.ss x.r lost);rw [<-oH];have HKK:=zC oH;clear oH;go_enter Tryz.func47,Tryz.ntmps47;go_upto_region 1 with fail;rw [<-hw1,<-hg];clear hw1 hg;go_wp2_with fail;refine CR.mono ?_;obtain ⟨er,her⟩:=zB (K.dM x.nd x.l x.ss x.r lost);rw [<-her];have dV:=zC her;clear her;rintro e w2 ⟨⟨RA,rn,rc,RL,rfl,hRS,jm⟩,b2⟩;have aY:=hN1.below b2;have hb2:=bel b1 b2;clear CR p0 p1 p2 p3 b1 b2 hN1;by_cases hz:er=0;rotate_left
 ·have HX:=zC (show KK=(K.Kp.zero,er) by rw [HKK.out,dV.out];unfold K.cZ;rw [if_neg (by rw [<-dV.out];exact hz)]);have hd:(er != 0)=true:=by simp [bne,hz]
  go_wp2_with fail;refine bodyPost_ret (J_ rfl _ _ _) rfl ?_;rw [HX.out];exact air hb2
 subst hz;have hE0:K.dM x.nd x.l x.ss x.r lost=0:=dV.out.symm;have HP:=zC (K.BQ hE0).2;have j_:x.m<=6:=by rw [hx.aN.1];exact (K.gQ HP.out).2.2.2.2
 obtain ⟨R,hR⟩:=zB (K.jV x.nd x.l x.ss x.r lost);rw [<-hR] at jm;have HR:=zC (show R=K.dN lost 0 x.ss by rw [hR];unfold K.jV;rw [if_pos hE0]);obtain ⟨hrn,hrs⟩:=FM hx hsn kK (by rw [hR];exact FI) hRS jm;have Lm:=zC (show KK=(K.bV x.nd x.l R x.r x.r.length,0) by rw [HKK.out];unfold K.cZ;rw [if_pos hE0,HR.out,K.BJ]);have og:=zC jm;have aO:=zC hx.aN.1;clear HKK dV hE0 hR jm;obtain ⟨B,hB⟩:=zB w2.heap.size;have hBz:w.heap.size<=B:=by rw [hB];exact hb2.size
 have hQ2:=hx.aN.below hb2;have p0:=af aY 0 _ rfl;have p1:=af aY 1 _ rfl;have p2:=af aY 2 _ rfl;have p3:=af aY 3 _ rfl;go_wp2_with fail;clear p0 p1 p2 p3;go_loopw [4,5,6,9,29] (λv4 v5 v6 v9 v29 wr=>∃ (i:Nat) (d:KD),v29=.int .i64 i/\i<=x.m/\v5=.slice d.TA d.tn d.tc/\v9=.slice d.SA d.sn d.sc/\ig wr B v4 v6 d/\pR x.nd x.l R x.r i d/\Below w2.heap.size w2 wr) (λ_ _ _ _ v29 _=>x.m - (intOf v29).toNat)
 case atStart=>exact ⟨0,_,rfl,Nat.zero_le _,rfl,rfl,ig.zero _ _,pR.zero _ _ _ _,Below.refl _ _⟩
 case round =>
  obtain ⟨i,d,rfl,hi,rfl,rfl,hK,hS,hbr⟩:=hrel;have hbw:=bel hb2 hbr;by_cases hlt:i < x.m
  ·obtain ⟨ad,q,hA,hq,hW,c0,c1,c2,c3,c4,c5,c6⟩:=(hx.aN.below hbw).at_ hlt;have HQ:=zC hq;have k0:(0:Int)<=(i:Int):=by omega
   have k1:(i:Int) < (x.m:Int):=by omega
   have hsl:=hS.sl;obtain ⟨gs,hgs⟩:=zB wr.heap.size;obtain ⟨w4,hw4⟩:=zB (wr.alloc (.cells #[.int .i64 q.node,.int .i64 q.room,.int .i64 q.aF,.int .i64 q.service,.int .i64 q.aB,.int .i64 q.aA,.slice q.A q.n q.c] 47));have b4:=zA hw4;have hB4:jK w4 gs q:=by rw [hw4,hgs];exact jK.new _ _
   have hK4:=hK.below b4;have CW:=ab9 d.SA d.sn d.sc d.sv q w4 (by have h:=hK4.served.2.1;rw [xw] at h;exact h) (by omega);rw [hA];have HA:=zC hA;clear hA hq;go_upto_region 8 with fail;rw [<-hw4,<-hgs];clear hw4 hgs c0 c1 c2 c3 c4 c5 c6;obtain ⟨s0,s1,s2,s3,s4,s5,s6⟩:=hB4.cells;go_wp2_with fail;refine CW.mono ?_;rintro e w5 ⟨⟨v,rfl,hv⟩,b5⟩;obtain ⟨SB,cB,rfl,hRv,Wl⟩:=dh hv;have aU:=bel b4 b5;have hK5:=hK.below aU;have iQ:=aY.below (bel hbr aU);have hS5:bW w5 SB (d.sn + 1) (d.sv ++ [q]):=⟨by rw [List.length_append,<-hK.served.1];rfl,by rw [xw];exact hRv,λp hp=>by
    rcases List.mem_append.1 hp with hp | hp
    ·exact (hK5.served).2.2 p hp
    ·rw [List.mem_singleton.1 hp];exact hW.below aU⟩
   have hUS:∀ g,UQ SB (d.sn + 1) (d.sv ++ [q]) g->w4.heap.size<=g\/g < B:=by
    rintro g (⟨-,ad,e,rfl⟩ | ⟨p,hp,e⟩)
    ·exact .inl (Wl _ (by rw [e];rfl)).1
    ·refine .inr ?_;rw [hB];have hpr:p ∈ x.r:=by
      rcases List.mem_append.1 hp with hp | hp
      ·exact hS.inr p hp
      ·rw [List.mem_singleton.1 hp];exact zD HQ.out
     exact hQ2.jC (.inr ⟨p,hpr,e⟩)
   have hCs:bF w5 ⟨x.nd,x.A,x.n,x.c,x.l,RA,rn,rc,RL,SB,d.sn + 1,cB,d.sv ++ [q]⟩ :=
    ⟨aQ.below hx.net (bel hbw aU),hRS.below (bel hbr aU),hS5,hx.b1,λs hs=>by have:=hrs s hs;omega,by show rn<=_;omega,by show d.sn + 1<=_;omega,λp hp=>by
     rcases List.mem_append.1 hp with hp | hp
     ·exact hx.b5 p (hS.inr p hp)
     ·rw [List.mem_singleton.1 hp];exact hx.b5 q (zD HQ.out)⟩
   have CP:=aaw ⟨x.nd,x.A,x.n,x.c,x.l,RA,rn,rc,RL,SB,d.sn + 1,cB,d.sv ++ [q]⟩ w5 hCs;rw [show K.plan (Cs.nd ⟨x.nd,x.A,x.n,x.c,x.l,RA,rn,rc,RL,SB,d.sn + 1,cB,d.sv ++ [q]⟩) (Cs.l ⟨x.nd,x.A,x.n,x.c,x.l,RA,rn,rc,RL,SB,d.sn + 1,cB,d.sv ++ [q]⟩) (Cs.ss ⟨x.nd,x.A,x.n,x.c,x.l,RA,rn,rc,RL,SB,d.sn + 1,cB,d.sv ++ [q]⟩) (Cs.r ⟨x.nd,x.A,x.n,x.c,x.l,RA,rn,rc,RL,SB,d.sn + 1,cB,d.sv ++ [q]⟩)=K.plan x.nd x.l R (d.sv ++ [q]) from K.JZ rfl og.out] at CP;obtain ⟨PP,l_⟩:=zB (K.plan x.nd x.l R (d.sv ++ [q]));rw [<-l_] at CP;have qQ:=zC l_;clear l_ CW s0 s1 s2 s3 s4 s5 s6 hv hRv Wl hB4 hK4;have p0:=af iQ 0 _ rfl;have p1:=af iQ 1 _ rfl;go_wp2_with fail;refine CP.mono ?_;rintro e w6 ⟨⟨TA,tn,tc,ts,rfl,dR,htc,hts,hTA,Ou⟩,b6⟩;have iT:=zC hts;have hUT:=ahc (n:=tn) hTA Ou;have afI:tn<=tc/\∀ y ∈ ts,y.n<=y.c:=⟨htc,λy hy=>(Ou y hy).2.2.1⟩;have Aj:=bel aU b6;have hK6:=hK5.below b6;have kY:=iQ.below b6;have N_:=hCs.below b6;have hS6:=hS5.below b6;obtain ⟨f,hf⟩:=zB PP.2;rw [<-hf];have HF:=zC hf;clear hf CP p0 p1 hts hTA Ou iQ hCs hS5 hK5;by_cases hf0:f=0
   ·subst hf0;have mY:=zC (hS.yes (TA:=TA) (SA:=SB) (tn:=tn) (tc:=tc) (sc:=cB) HQ.out (by rw [<-qQ.out];exact HF.out.symm) (by rw [iT.out,qQ.out]));obtain ⟨w8,hw8⟩:=zB (w6.alloc (.cells #[.int .i64 i] 3));obtain ⟨g8,gY⟩:=zB w6.heap.size;have b8:=zA hw8;have lQ:w8.heap[g8]? = some (.cells #[.int .i64 i] 3 (0,0)):=by rw [hw8,gY];exact heap_alloc_new _ _
    have hK8:=(hK6.turn (sc:=cB) dR afI hS6 (λg e=>hK.new aU (.inl (hUT g e))) (λg e=>hK.new b4 (hUS g e))).below b8;have hb8:=bel hbr (bel Aj b8);have iY:B<=w8.heap.size:=by rw [hB];exact hb8.size
    have hkl:=hS.kl;go_wp2_with (first
     | (at_builtin;rw [<-hw8,<-gY];refine rq rfl _ _ rfl B _ d.kept.length d.kept rfl hK8.row4 g8 i rfl lQ (by omega) iY ?_;intro v' w9 b_ jE kZ)
     | fail)
    have hK9:=hK8.UD jE kZ b_;have bU:Below w2.heap.size w2 w9:=a_ hb8 jE (λg e=>by rw [<-hB];exact (bG hK8.row4 g e).1);go_roundw
    case rel=>(go_light;exact ⟨i + 1,⟨d.kept ++ [(i:Int)],d.L,TA,tn,tc,ts,SB,d.sn + 1,cB,d.sv ++ [q]⟩,by go_num,hlt,rfl,rfl,hK9,mY.out,bU⟩)
    case measure=>(go_light;simp [intOf];omega)
   ·have LJ:=zC (show (K.plan x.nd x.l R (d.sv ++ [q])).2 ≠ 0 by rw [<-qQ.out,<-HF.out];exact hf0);have hd:(f == 0)=false:=by simp [hf0]
    have hd2:decide (f=0)=false:=by simp [hf0]
    have CF:=aaH ⟨x.nd,x.A,x.n,x.c,x.l,RA,rn,rc,RL,SB,d.sn + 1,cB,d.sv ++ [q]⟩ w6 N_;rw [show K.refute (Cs.nd ⟨x.nd,x.A,x.n,x.c,x.l,RA,rn,rc,RL,SB,d.sn + 1,cB,d.sv ++ [q]⟩) (Cs.l ⟨x.nd,x.A,x.n,x.c,x.l,RA,rn,rc,RL,SB,d.sn + 1,cB,d.sv ++ [q]⟩) (Cs.ss ⟨x.nd,x.A,x.n,x.c,x.l,RA,rn,rc,RL,SB,d.sn + 1,cB,d.sv ++ [q]⟩) (Cs.r ⟨x.nd,x.A,x.n,x.c,x.l,RA,rn,rc,RL,SB,d.sn + 1,cB,d.sv ++ [q]⟩)=K.refute x.nd x.l R (d.sv ++ [q]) from K.Rf rfl og.out] at CF;obtain ⟨PF,yK⟩:=zB ((K.refute x.nd x.l R (d.sv ++ [q])).1.map λb=>((b.1:Int),b.2));obtain ⟨ef,hef⟩:=zB ((K.refute x.nd x.l R (d.sv ++ [q])).2);rw [<-yK,<-hef] at CF;have LX:=zC yK;have p0:=af kY 0 _ rfl;have p1:=af kY 1 _ rfl;clear yK hef;go_wp2_with fail;refine CF.mono ?_;rintro e w7 ⟨⟨FA,fn,fc,fl,rfl,rF,hfc,uk,hfp,hFA,hNB⟩,b7⟩;have bf:=zC (hS.no HQ.out LJ.out (y:=⟨FA,fn,fc,fl⟩) (by rw [<-LX.out];exact hfp));have Xo:=ag1 (n:=fn) hFA hNB;have tY:=bel Aj b7;obtain ⟨w8,hw8⟩:=zB (w7.alloc (.cells #[.slice FA fn fc] 28));obtain ⟨g8,gY⟩:=zB w7.heap.size;have b8:=zA hw8;have lQ:w8.heap[g8]? = some (.cells #[.slice FA fn fc] 28 (0,0)):=by rw [hw8,gY];exact heap_alloc_new _ _
    have hK8:=(hK6.below b7).below b8;have Oe:=rF.below b8;have hb8:=bel hbr (bel tY b8);have iY:B<=w8.heap.size:=by rw [hB];exact hb8.size
    have hll:=hS.ll;obtain ⟨i0,hi0,hy0,hy1,hy2⟩:=info_parts Tryz.info28k;clear p0 p1 CF;go_wp2_with (first
     | (at_builtin;rw [<-hw8,<-gY];refine jW rfl _ _ 65 rfl B 28 i0 (.slice none 0 0) 1 24 Tryz.underlying65k hi0 hy0 hy1 hy2 rfl (by decide) _ d.L.length (d.L.flatMap RV.cells) rfl hK8.qG (some ⟨g8,0,none⟩) 1 1 (RV.cells ⟨FA,fn,fc,fl⟩) rfl (Rd.of_block lQ 1 1 rfl) (by intro u hu;rw [show u=.slice FA fn fc from List.mem_singleton.1 hu];rfl) (by simp only [maxLen];omega) (by omega) iY ?_;intro v' w9 b_ jE kZ)
     | fail)
    have hK9:=hK8.UE (y:=⟨FA,fn,fc,fl⟩) jE kZ Oe ⟨uk,hfc⟩ (λg e=>(hK.new Aj (.inl (Xo g e))).1) (λg e=>(hK.new Aj (.inl (Xo g e))).2) (by rw [List.flatMap_append,List.flatMap_singleton];exact b_);have bU:Below w2.heap.size w2 w9:=a_ hb8 jE (λg e=>by rw [<-hB];exact (bG hK8.qG g e).1);go_roundw
    case rel=>(go_light;exact ⟨i + 1,⟨d.kept,d.L ++ [⟨FA,fn,fc,fl⟩],d.TA,d.tn,d.tc,d.ts,d.SA,d.sn,d.sc,d.sv⟩,by go_num,hlt,rfl,rfl,hK9,bf.out,bU⟩)
    case measure=>(go_light;simp [intOf];omega)
  ·have hd:decide ((i:Int) < (x.m:Int))=false:=by simp;omega
   have hd2:decide (i < x.m)=false:=by simp;omega
   have HE:Hid (i=x.r.length):=zC (by rw [<-aO.out];omega);obtain ⟨KA,kc,rfl,OD,-⟩:=dh hK.row4;obtain ⟨FA,fc,rfl,eG,-⟩:=dh hK.qG;have hll:=hS.ll;go_wp2_with fail;refine bodyPost_ret (J_ rfl _ _ _) rfl ?_;rw [Lm.out];have hP0:K.aH x.nd x.l R [] = 0:=K.JW HP.out (by rw [HR.out];exact K.uS _ _) (List.nil_sublist _);have hOk:=K.BK hP0 (r:=x.r) (zG _);have hSl:pR x.nd x.l R x.r x.r.length d:=by rw [<-HE.out];exact hS
   have hfew:=K.adN hOk.dG;rw [<-hSl.ts] at hfew;exact ⟨⟨KA,d.kept.length,kc,FA,d.L.length,fc,d,rfl,by rw [<-hSl.kept];exact ⟨rfl,OD⟩,hK.dG,hK.KJ,aei hK.dG ⟨by have:=hfew.1;rwa [List.length_map] at this,hfew.2⟩,hSl.ts,⟨⟨rfl,eG⟩,hK.reasons⟩,⟨by omega,hK.few⟩,hSl.rs⟩,hbw⟩
theorem Zn (p:Int->Bool):∀ v:List Int,v.length=(v.filter p).length + (v.filter λj=>!p j).length
 | []=>rfl
 | a :: v=>by
  have ih:=Zn p v;cases h:p a
  ·rw [List.filter_cons_of_neg (by simp [h]),List.filter_cons_of_pos (by simp [h]),List.length_cons,List.length_cons];omega
  ·rw [List.filter_cons_of_pos h,List.filter_cons_of_neg (by simp [h]),List.length_cons,List.length_cons];omega
theorem UG:∀ (v:List Int) (a b:Int),v.Pairwise (· < ·)->(∀ j ∈ v,a<=j/\j < b)->a<=b->(v.length:Int)<=b - a
 | [],a,b,_,_,h=>by show ((0:Nat):Int)<=b - a;omega
 | j :: v,a,b,h,hj,_=>by
  obtain ⟨h1,h2⟩:=List.pairwise_cons.1 h;have h3:=hj j List.mem_cons_self;have ih:=UG v (j + 1) b h2 (λk hk=>⟨by have:=h1 k hk;omega,(hj k (List.mem_cons_of_mem _ hk)).2⟩) (by omega);rw [List.length_cons];omega
structure nU (nd:Int) (l:List Ro) (R:List S) (r:List Q) (kept:List Int) (dG:List (Int × K.Tr)) (reasons:List (List (Int × List Int × List Lb))) (Z:Bool) (i:Nat) (sv:List Q):Prop where
 val:Z=K.mG nd l R kept dG i (r.drop i) sv (reasons.drop (i - sv.length))
 len:sv.length=(kept.filter λj=>decide (j < (i:Int))).length
 le:sv.length<=i
 inr:∀ q ∈ sv,q ∈ r
section
variable {nd : Int} {l : List Ro} {R : List S} {r : List Q} {kept : List Int} {dG : List (Int × K.Tr)} {reasons : List (List (Int × List Int × List Lb))} {Z : Bool} {i : Nat} {sv : List Q} {q : Q}
theorem nU.zero (h:K.dZ r.length (-1) kept=true):nU nd l R r kept dG reasons (K.mG nd l R kept dG 0 r [] reasons) 0 []:=by
 refine ⟨rfl,?_,zG _,λq h=>(by cases h)⟩;rw [K.filter_none λj hj=>by have:=((K.Dx.1 h).2 j hj).1;omega];rfl
theorem nU.yes (h:nU nd l R r kept dG reasons Z i sv) (ha:K.dZ r.length (-1) kept=true) (hq:r[i]? = some q) (hc:kept.contains (i:Int)=true):nU nd l R r kept dG reasons Z (i + 1) (sv ++ [q]):=by
 obtain ⟨hi,e⟩:=zE.1 hq;have hf:=K.NM (i:=(i:Int)) (K.Dx.1 ha).1;rw [if_pos hc] at hf;refine ⟨?_,?_,?_,λp hp=>?_⟩
 ·have hv:=h.val;rw [List.drop_eq_getElem_cons hi,e,K.mG,if_pos hc] at hv;rw [hv,List.length_append,List.length_singleton,Nat.add_sub_add_right]
 ·rw [List.length_append,h.len,Int.natCast_add,Int.natCast_one,hf,List.length_append];rfl
 ·have:=h.le;rw [List.length_append,List.length_singleton];omega
 ·rcases List.mem_append.1 hp with hp | hp
  ·exact h.inr p hp
  ·rw [List.mem_singleton.1 hp];exact zD hq
theorem nU.no (h:nU nd l R r kept dG reasons Z i sv) (ha:K.dZ r.length (-1) kept=true) (hn:kept.length + reasons.length=r.length) (hq:r[i]? = some q) (hc:kept.contains (i:Int)=false) :
  ∃ b,reasons[i - sv.length]? = some b/\(K.refutes nd l R (sv ++ [q]) b=false->Z=false)/\(K.refutes nd l R (sv ++ [q]) b=true->nU nd l R r kept dG reasons Z (i + 1) sv):=by
 obtain ⟨hi,e⟩:=zE.1 hq;obtain ⟨a1,a2⟩:=K.Dx.1 ha;have hf:=K.NM (i:=(i:Int)) a1;rw [if_neg (by rw [hc];simp)] at hf;have hle:=h.le;have hlt:i - sv.length < reasons.length:=by
  have h1:=Zn (λj=>decide (j < (i:Int))) kept;have h2:=h.len;have h3:=UG (kept.filter λj=>!decide (j < (i:Int))) ((i:Int) + 1) (r.length:Int) (a1.sublist List.filter_sublist) (λj hj=>by
   obtain ⟨g1,g2⟩:=List.mem_filter.1 hj;have g3:=(a2 j g1).2;have g4:j ≠ (i:Int):=λe=>by rw [e] at g1;rw [List.contains_iff_mem.2 g1] at hc;cases hc
   simp at g2;omega) (by omega)
  omega
 have hg:reasons[i - sv.length]? = some (reasons[i - sv.length]'hlt):=zF hlt;have hv:=h.val;rw [List.drop_eq_getElem_cons hi,e,K.mG,if_neg (by rw [hc];simp),List.drop_eq_getElem_cons hlt] at hv;change Z=(K.refutes nd l R (sv ++ [q]) (reasons[i - sv.length]'hlt) && K.mG nd l R kept dG (i + 1) (r.drop (i + 1)) sv (reasons.drop (i - sv.length + 1))) at hv;refine ⟨_,hg,λhr=>?_,λhr=>⟨?_,?_,by omega,h.inr⟩⟩
 ·rw [hv,hr,Bool.false_and]
 ·rw [hr,Bool.true_and] at hv;rw [hv,show i + 1 - sv.length=i - sv.length + 1 by omega]
 ·rw [h.len,Int.natCast_add,Int.natCast_one,hf]
end
theorem ND {w:World} {x:Cs} (hx:bF w x) {RA:Option Addr} {rn rc:Nat} {RL:List S} (hRS:Shifts w RA rn RL) (hrn:rn<=1000000) (hrs:∀ s ∈ RL,s.n<=1000000) {sv:List Q} {B:Nat} {v:Value} {n:Nat} (hn:n=sv.length)
  (hv:w.ownsRow B 47 7 v n (sv.flatMap Q.cells)) (hin:∀ p ∈ sv,p ∈ x.r) (hl:n<=1000000):∃ SB cB,v=.slice SB n cB/\bF w ⟨x.nd,x.A,x.n,x.c,x.l,RA,rn,rc,RL,SB,n,cB,sv⟩:=by
 obtain ⟨SB,cB,rfl,hRv,-⟩:=dh hv;exact ⟨SB,cB,rfl,hx.net,hRS,⟨hn,by rw [xw];exact hRv,λp hp=>hx.aN.2.2 p (hin p hp)⟩,hx.b1,λs hs=>by have:=hrs s hs;omega,by show rn<=_;omega,by show n<=_;omega,λp hp=>hx.b5 p (hin p hp)⟩
theorem lD.at_ {w:World} {A:Option Addr} {n k:Nat} {l:List RV} (h:lD w A n l) (hk:k < n):∃ ad y,A=some ad/\l[k]? = some y/\fA w y.A y.n y.bl/\w.cell? (ad.add k)=some (.slice y.A y.n y.c):=by
 obtain ⟨ad,y,hA,hl,hc⟩:=aQ.get (f:=RV.cells) (s:=1) (λ_=>rfl) h.1 hk;refine ⟨ad,y,hA,hl,h.2 y (zD hl),?_⟩;have:=hc 0 _ (by omega) rfl;rwa [Nat.mul_one,Nat.add_zero] at this
theorem UC {l:List Int} {x:Int}:l.any (· == x)=l.contains x:=by
 induction l with
 | nil=>rfl
 | cons a l ih =>
  rw [List.any_cons,List.contains_cons,ih];congr 1;exact Bool.beq_comm ..
theorem Vg (x:Cs) (LA:Option Addr) (ln lc:Nat) (lost:List Int) (KA:Option Addr) (kn kc:Nat) (kept:List Int) (TA:Option Addr) (tn tc:Nat) (ts:List TV) (RA:Option Addr) (rn rc:Nat) (rl:List RV) (w:World) (hx:bF w x) (hL:Ints w LA ln lost) (hK:Ints w KA kn kept) (hT:dY w TA tn ts) (hR:lD w RA rn rl)
  (hln:ln<=1000000000) (hkn:kn<=1000000000) (lN:sQ tn ts) (ny:Gi rn rl) (hsn:x.sn<=1000000) (kK:∀ s ∈ x.ss,s.n<=1000000) :
  Calls Tryz.prog 52 #[.agg #[.int .i64 x.nd,.slice x.A x.n x.c,.slice x.SA x.sn x.sc,.slice x.B x.m x.d],.slice LA ln lc,.slice KA kn kc,.slice TA tn tc,.slice RA rn rc] w λe w'=>e=.returned (.bool (K.lU x.nd x.l x.ss x.r lost kept (ts.map TV.pr) (rl.map RV.pr)))/\Below w.heap.size w w':=by
 obtain ⟨w1,hw1⟩:=zB (w.alloc (.cells #[.int .i64 x.nd,.slice x.A x.n x.c,.slice x.SA x.sn x.sc,.slice x.B x.m x.d] 44));obtain ⟨g,hg⟩:=zB w.heap.size;have b1:=zA hw1;have hN1:ja w1 g x:=by rw [hw1,hg];exact ja.new _ _
 have p0:=af hN1 0 _ rfl;have p1:=af hN1 1 _ rfl;have p2:=af hN1 2 _ rfl;have p3:=af hN1 3 _ rfl;have CR:=FK x LA ln lc lost w1 (hx.below b1) (hL.below b1) hln hsn kK;obtain ⟨Z,hZ⟩:=zB (K.lU x.nd x.l x.ss x.r lost kept (ts.map TV.pr) (rl.map RV.pr));rw [<-hZ];have HZ:=zC hZ;clear hZ;have aO:=zC hx.aN.1;have CU:=zC hK.1;have aK:=zC (show (rl.map RV.pr).length=rn by rw [List.length_map,hR.1.1]);have hb4:=hx.b4;have hfr:=ny.1;go_enter Tryz.func52,Tryz.ntmps52;go_upto_region 1 with fail;rw [<-hw1,<-hg];clear hw1 hg;go_wp2_with fail;refine CR.mono ?_;obtain ⟨er,her⟩:=zB (K.dM x.nd x.l x.ss x.r lost);rw [<-her];have dV:=zC her;clear her;rintro e w2 ⟨⟨iL,iH,gU,RL,rfl,hRS,jm⟩,b2⟩;have aY:=hN1.below b2;have hb2:=bel b1 b2;clear CR p0 p1 p2 p3 b1 b2 hN1;have p0:=af aY 0 _ rfl;have p1:=af aY 1 _ rfl;have p2:=af aY 2 _ rfl;have p3:=af aY 3 _ rfl;by_cases hz:er=0;rotate_left
 ·have HX:=zC (show Z=false by rw [HZ.out];exact K.Y1 (by rw [<-dV.out];exact hz) _ _ _);have hd:(er != 0)=true:=by simp [bne,hz]
  go_wp2_with fail;go_ret;exact ⟨by rw [HX.out];rfl,hb2⟩
 subst hz;have hE0:K.dM x.nd x.l x.ss x.r lost=0:=dV.out.symm;have HP:=zC (K.BQ hE0).2;have j_:x.m<=6:=by rw [hx.aN.1];exact (K.gQ HP.out).2.2.2.2
 obtain ⟨R,hRe⟩:=zB (K.jV x.nd x.l x.ss x.r lost);rw [<-hRe] at jm;have HR:=zC (show R=K.dN lost 0 x.ss by rw [hRe];unfold K.jV;rw [if_pos hE0]);obtain ⟨hrn,hrs⟩:=FM hx hsn kK (by rw [hRe];exact FI) hRS jm;have HZ2:=zC (show Z=(K.dZ x.r.length (-1) kept && ((kept.length + (rl.map RV.pr).length == x.r.length) && K.mG x.nd x.l R kept (ts.map TV.pr) 0 x.r [] (rl.map RV.pr))) by
  rw [HZ.out,HR.out];unfold K.lU;rw [hE0];rfl)
 have og:=zC jm;clear HZ dV hE0 hRe jm;have CA:=aa' KA kn kc kept x.m w2 (hK.below hb2) hkn (by omega);obtain ⟨z,hz⟩:=zB (K.dZ x.m (-1) kept);rw [<-hz] at CA;have HA:=zC (show z=K.dZ x.r.length (-1) kept by rw [hz,aO.out]);clear hz;obtain ⟨sm,hsm⟩:=zB (kn + rn);have hwr:IntKind.i64.wrap ((kn:Int) + (rn:Int))=(sm:Int):=by rw [IntWalk.i64_in _ (by omega)];omega
 have dW:=zC hsm;clear hsm;cases z
 ·have HX:=zC (show Z=false by rw [HZ2.out,<-HA.out,Bool.false_and]);go_wp2_with fail;refine CA.mono ?_;rintro e w3 ⟨rfl,b3⟩;go_wp2_with fail;go_ret;exact ⟨by rw [HX.out];rfl,bel hb2 b3⟩
 go_wp2_with fail;refine CA.mono ?_;rintro e w3 ⟨rfl,b3⟩;have hb3:=bel hb2 b3;have hN3:=aY.below b3;have DW:=hRS.below b3;clear CA p0 p1 p2 p3 aY hb2 b3 hRS;have p0:=af hN3 0 _ rfl;have p1:=af hN3 1 _ rfl;have p2:=af hN3 2 _ rfl;have p3:=af hN3 3 _ rfl;by_cases hs:sm=x.m;rotate_left
 ·have HX:=zC (show Z=false by rw [HZ2.out,<-HA.out,Bool.true_and,aK.out,<-CU.out,<-aO.out,<-dW.out,beq_eq_false_iff_ne.2 hs,Bool.false_and]);have hd:((sm:Int) != (x.m:Int))=true:=by simp [bne];omega
  go_wp2_with fail;go_ret;exact ⟨by rw [HX.out];rfl,hb3⟩
 rw [hs] at hwr;have mW:=zC (show kept.length + (rl.map RV.pr).length=x.r.length by rw [aK.out,<-CU.out,<-aO.out,<-dW.out];exact hs);have HZ3:=zC (show Z=K.mG x.nd x.l R kept (ts.map TV.pr) 0 x.r [] (rl.map RV.pr) by rw [HZ2.out,<-HA.out,Bool.true_and,mW.out,beq_self_eq_true,Bool.true_and]);clear HZ2 hs dW;obtain ⟨B,hB⟩:=zB w3.heap.size;have hx3:=hx.below hb3;have hK3:=hK.below hb3;have nD:=hR.below hb3;have iV:=hT.below hb3;go_wp2_with fail;clear p0 p1 p2 p3 hwr;go_loopw [13,46] (λv13 v46 wr=>∃ (i:Nat) (sv:List Q),v46=.int .i64 i/\i<=x.m/\wr.ownsRow B 47 7 v13 sv.length (sv.flatMap Q.cells)/\nU x.nd x.l R x.r kept (ts.map TV.pr) (rl.map RV.pr) Z i sv/\Below w3.heap.size w3 wr) (λ_ v46 _=>x.m - (intOf v46).toNat)
 case atStart=>exact ⟨0,[],rfl,Nat.zero_le _,World.ownsRow_nil _ _ _ _,by rw [HZ3.out];exact nU.zero HA.out.symm,Below.refl _ _⟩
 case round =>
  obtain ⟨i,sv,rfl,hi,hown,hS,hbr⟩:=hrel;have hxr:=hx3.below hbr;have iD:=hN3.below hbr;have hsl:=hS.le;by_cases hlt:i < x.m
  ·obtain ⟨ad,q,hA,hq,hW,c0,c1,c2,c3,c4,c5,c6⟩:=hxr.aN.at_ hlt;have HQ:=zC hq;have k0:(0:Int)<=(i:Int):=by omega
   have k1:(i:Int) < (x.m:Int):=by omega
   obtain ⟨gs,hgs⟩:=zB wr.heap.size;obtain ⟨w4,hw4⟩:=zB (wr.alloc (.cells #[.int .i64 q.node,.int .i64 q.room,.int .i64 q.aF,.int .i64 q.service,.int .i64 q.aB,.int .i64 q.aA,.slice q.A q.n q.c] 47));have b4:=zA hw4;have hB4:jK w4 gs q:=by rw [hw4,hgs];exact jK.new _ _
   have CK:=NC KA kn kc kept i w4 (hK3.below (bel hbr b4)) hkn;obtain ⟨z,hz⟩:=zB (kept.contains (i:Int));rw [UC,<-hz] at CK;have HC:=zC hz;have hin:∀ p ∈ sv ++ [q],p ∈ x.r:=λp hp=>by
    rcases List.mem_append.1 hp with hp | hp
    ·exact hS.inr p hp
    ·rw [List.mem_singleton.1 hp];exact zD HQ.out
   rw [hA];have HAd:=zC hA;clear hA hq hz;go_upto_region 8 with fail;rw [<-hw4,<-hgs];clear hw4 hgs c0 c1 c2 c3 c4 c5 c6;go_wp2_with fail;refine CK.mono ?_;rintro e w5 ⟨rfl,b5⟩;have aU:=bel b4 b5;have dF:=hB4.below b5;have hown5:=own_below hown aU;have hx5:=hxr.below aU;have iQ:=iD.below aU;have hb5:=bel hbr aU;clear CK hB4 b4 b5;obtain ⟨s0,s1,s2,s3,s4,s5,s6⟩:=dF.cells;cases z;rotate_left
   ·have mY:=zC (hS.yes HA.out.symm HQ.out HC.out.symm);obtain ⟨w8,hw8⟩:=zB (w5.alloc (.cells #[.int .i64 q.node,.int .i64 q.room,.int .i64 q.aF,.int .i64 q.service,.int .i64 q.aB,.int .i64 q.aA,.slice q.A q.n q.c] 47));obtain ⟨g8,gY⟩:=zB w5.heap.size;have b8:=zA hw8;have lQ:w8.heap[g8]? = some (.cells #[.int .i64 q.node,.int .i64 q.room,.int .i64 q.aF,.int .i64 q.service,.int .i64 q.aB,.int .i64 q.aA,.slice q.A q.n q.c] 47 (0,0)):=by rw [hw8,gY];exact heap_alloc_new _ _
    have gu:=own_below hown5 b8;have hb8:=bel hb5 b8;have iY:B<=w8.heap.size:=by rw [hB];exact hb8.size
    obtain ⟨i0,hi0,hy0,hy1,hy2⟩:=info_parts yu;go_wp2_with (first
     | (at_builtin;rw [<-hw8,<-gY];refine jW rfl _ _ 26 rfl B 47 i0 (.agg #[.int .i64 0,.int .i64 0,.int .i64 0,.int .i64 0,.int .i64 0,.int .i64 0,.slice none 0 0]) 7 72 Tryz.underlying26 hi0 hy0 hy1 hy2 rfl (by decide) _ sv.length (sv.flatMap Q.cells) rfl gu (some ⟨g8,0,none⟩) 1 1 (Q.cells q) rfl (Rd.of_block lQ 7 1 rfl) (uQ q) (by simp only [maxLen];omega) (by omega) iY ?_;intro v9 w9 ku oP kZ)
     | fail)
    have bU:Below w3.heap.size w3 w9:=a_ hb8 oP (λg e=>by rw [<-hB];exact (bG gu g e).1);have y7:w9.ownsRow B 47 7 v9 (sv ++ [q]).length ((sv ++ [q]).flatMap Q.cells):=by
     rw [List.length_append,List.flatMap_append,List.flatMap_singleton];exact ku
    clear s0 s1 s2 s3 s4 s5 s6 gu ku oP kZ;go_roundw
    case rel=>(go_light;exact ⟨i + 1,sv ++ [q],by go_num,hlt,y7,mY.out,bU⟩)
    case measure=>(go_light;simp [intOf];omega)
   ·obtain ⟨bb,hbb,hno,hyes⟩:=hS.no HA.out.symm mW.out HQ.out HC.out.symm;obtain ⟨j,hj⟩:=zB (i - sv.length);rw [<-hj] at hbb;have hjn:j < rn:=by
     have:=(zE.1 hbb).1;have:=aK.out;omega
    have jZ:=nD.below hb5;obtain ⟨Dw,y,oI,hy,hyB,cy⟩:=jZ.at_ hjn;have HY:=zC (show y.bl.map BV.pr=bb by
     rw [List.getElem?_map,hy] at hbb;injection hbb)
    have uk:=(ny.2 y (zD hy)).1;have xO:=zC hno;have MK:=zC hyes;have hsub:IntKind.i64.wrap ((i:Int) - (sv.length:Int))=((j:Nat):Int):=by rw [IntWalk.i64_in _ (by omega)];omega
    have j0:(0:Int)<=(j:Int):=by omega
    have j1:(j:Int) < (rn:Int):=by omega
    obtain ⟨SV,KF,rfl,hRv,-⟩:=dh hown5;have q0:=af iQ 0 _ rfl;have q1:=af iQ 1 _ rfl;have hbd:Below w5.heap.size w5 w5.drew:=(Below.refl _ _).drew;have hmk:∀ w',Below w5.heap.size w5 w'->(λw':World=>w'.cell? ⟨g,0,none⟩=some (.int .i64 x.nd)/\w'.cell? ⟨g,1,none⟩=some (.slice x.A x.n x.c)/\w'.cell? (Dw.add j)=some (.slice y.A y.n y.c)/\w'.cell? ⟨gs,0,none⟩=some (.int .i64 q.node)/\w'.cell? ⟨gs,1,none⟩=some (.int .i64 q.room)/\w'.cell? ⟨gs,2,none⟩=some (.int .i64 q.aF)/\w'.cell? ⟨gs,3,none⟩=some (.int .i64 q.service)/\w'.cell? ⟨gs,4,none⟩=some (.int .i64 q.aB)/\w'.cell? ⟨gs,5,none⟩=some (.int .i64 q.aA)/\w'.cell? ⟨gs,6,none⟩=some (.slice q.A q.n q.c)) w':=λw' h =>
     ⟨(h.cell (cell_lt q0)).trans q0,(h.cell (cell_lt q1)).trans q1,(h.cell (cell_lt cy)).trans cy,(h.cell (cell_lt s0)).trans s0,(h.cell (cell_lt s1)).trans s1,(h.cell (cell_lt s2)).trans s2,(h.cell (cell_lt s3)).trans s3,(h.cell (cell_lt s4)).trans s4,(h.cell (cell_lt s5)).trans s5,(h.cell (cell_lt s6)).trans s6⟩
    have S0:=hmk _ (Below.refl _ _);have aW:=hmk _ hbd;have CW:=ab9 SV sv.length KF sv q w5.drew (hRv.below hbd) (by omega);have hxd:=hx5.below hbd;have W_:=(DW.below hb5).below hbd;have afU:=hyB.below hbd;have hlen:sv.length + 1=(sv ++ [q]).length:=by rw [List.length_append];rfl
    have hl1:sv.length + 1<=1000000:=by omega
    have CW:Calls Tryz.prog 112 #[.slice SV sv.length KF,.agg #[.int .i64 q.node,.int .i64 q.room,.int .i64 q.aF,.int .i64 q.service,.int .i64 q.aB,.int .i64 q.aA,.slice q.A q.n q.c]] w5.drew λe w'=>(∃ SB cB,e=.returned (.slice SB (sv.length + 1) cB)/\bF w' ⟨x.nd,x.A,x.n,x.c,x.l,iL,iH,gU,RL,SB,sv.length + 1,cB,sv ++ [q]⟩)/\Below w5.drew.heap.size w5.drew w':=by
     refine CW.mono ?_;rintro e w6 ⟨⟨v6,rfl,hv6⟩,b6⟩;obtain ⟨SB,cB,rfl,hCs⟩:=ND (rc:=gU) (hxd.below b6) (W_.below b6) hrn hrs hlen hv6 hin hl1;exact ⟨⟨SB,cB,rfl,hCs⟩,b6⟩
    clear hj hlen hl1 W_ hxd;rw [oI];have L_:=zC oI;clear oI s0 s1 s2 s3 s4 s5 s6 q0 q1 cy hbb hno hyes hy;go_wp2_with fail
    go_region_held3 (λw':World=>w'.cell? ⟨g,0,none⟩=some (.int .i64 x.nd)/\w'.cell? ⟨g,1,none⟩=some (.slice x.A x.n x.c)/\w'.cell? (Dw.add j)=some (.slice y.A y.n y.c)/\w'.cell? ⟨gs,0,none⟩=some (.int .i64 q.node)/\w'.cell? ⟨gs,1,none⟩=some (.int .i64 q.room)/\w'.cell? ⟨gs,2,none⟩=some (.int .i64 q.aF)/\w'.cell? ⟨gs,3,none⟩=some (.int .i64 q.service)/\w'.cell? ⟨gs,4,none⟩=some (.int .i64 q.aB)/\w'.cell? ⟨gs,5,none⟩=some (.int .i64 q.aA)/\w'.cell? ⟨gs,6,none⟩=some (.slice q.A q.n q.c))
     (first | with_reducible exact S7 | with_reducible exact S6 | with_reducible exact aW | with_reducible exact S0 | fail)
     (first
      | (go_at_call 112;refine CW.mono ?_;rintro e w6 ⟨⟨SB,cB,rfl,hCs⟩,b6⟩;have S6:=hmk _ (bel hbd b6))
      | (go_at_call 28;refine (aij ⟨x.nd,x.A,x.n,x.c,x.l,iL,iH,gU,RL,SB,sv.length + 1,cB,sv ++ [q]⟩ y.A y.n y.c y.bl _ hCs (afU.below b6) uk).mono ?_;rintro e w7 ⟨rfl,b7⟩;have S7:=hmk _ (bel (bel hbd b6) b7))
      | fail)
    rw [show K.refutes (Cs.nd ⟨x.nd,x.A,x.n,x.c,x.l,iL,iH,gU,RL,SB,sv.length + 1,cB,sv ++ [q]⟩) (Cs.l ⟨x.nd,x.A,x.n,x.c,x.l,iL,iH,gU,RL,SB,sv.length + 1,cB,sv ++ [q]⟩) (Cs.ss ⟨x.nd,x.A,x.n,x.c,x.l,iL,iH,gU,RL,SB,sv.length + 1,cB,sv ++ [q]⟩) (Cs.r ⟨x.nd,x.A,x.n,x.c,x.l,iL,iH,gU,RL,SB,sv.length + 1,cB,sv ++ [q]⟩) (y.bl.map BV.pr)=K.refutes x.nd x.l R (sv ++ [q]) bb by rw [HY.out];exact K.aaQ rfl og.out _];obtain ⟨z,hz⟩:=zB (K.refutes x.nd x.l R (sv ++ [q]) bb);rw [<-hz];have Di:=zC hz;have hb7:=bel hb5 (bel (bel hbd b6) b7);have fF:=own_below hown (bel (bel (bel aU hbd) b6) b7);clear hz hmk;cases z
    ·have HX:=zC (xO.out Di.out.symm);go_wp2_with fail;go_ret;exact ⟨by rw [HX.out];rfl,bel hb3 hb7⟩
    ·have mY:=zC (MK.out Di.out.symm);go_wp2_with fail;rw [<-L_.out];go_roundw
     case rel=>(go_light;exact ⟨i + 1,sv,by go_num,hlt,fF,mY.out,hb7⟩)
     case measure=>(go_light;simp [intOf];omega)
  ·have hd:decide ((i:Int) < (x.m:Int))=false:=by simp;omega
   have hd2:decide (i < x.m)=false:=by simp;omega
   have HI:Hid (i=x.r.length):=zC (by rw [<-aO.out];omega);obtain ⟨SB,cB,rfl,hCs⟩:=ND (rc:=gU) hxr (DW.below hbr) hrn hrs rfl hown hS.inr (by omega);have CC:=Vo ⟨x.nd,x.A,x.n,x.c,x.l,iL,iH,gU,RL,SB,sv.length,cB,sv⟩ TA tn tc ts wr hCs (iV.below hbr) lN;rw [show K.checks (Cs.nd ⟨x.nd,x.A,x.n,x.c,x.l,iL,iH,gU,RL,SB,sv.length,cB,sv⟩) (Cs.l ⟨x.nd,x.A,x.n,x.c,x.l,iL,iH,gU,RL,SB,sv.length,cB,sv⟩) (Cs.ss ⟨x.nd,x.A,x.n,x.c,x.l,iL,iH,gU,RL,SB,sv.length,cB,sv⟩) (Cs.r ⟨x.nd,x.A,x.n,x.c,x.l,iL,iH,gU,RL,SB,sv.length,cB,sv⟩) (ts.map TV.pr)=K.checks x.nd x.l R sv (ts.map TV.pr) from K.Vs rfl og.out _] at CC;obtain ⟨ce,hce⟩:=zB (K.checks x.nd x.l R sv (ts.map TV.pr));rw [<-hce] at CC;have HV:=zC (show Z=(ce == 0) by
    rw [hS.val,HI.out,List.drop_length,hce];rfl)
   have p0:=af iD 0 _ rfl;have p1:=af iD 1 _ rfl;clear hce;go_wp2_with fail;refine CC.mono ?_;rintro e w9 ⟨rfl,b9⟩;go_wp2_with fail;go_ret;exact ⟨by rw [HV.out];rfl,bel hb3 (bel hbr b9)⟩
theorem abA (A B:Option Addr) (n m c d:Nat) (la lb:List Lb) (w:World) (hla:dX w A n la) (hlb:dX w B m lb) (hn:n<=1000000000) (hm:m<=1000000000) :
  Calls Tryz.prog 83 #[.slice A n c,.slice B m d] w λe w'=>e=.returned (.bool (decide (la=lb)))/\Below w.heap.size w w':=by
 by_cases hnm:n=m
 ·obtain rfl:=hnm;go_enter Tryz.func83,Tryz.ntmps83;go_wp2_with fail;go_loopw [5] (λvi wr=>∃ k:Nat,vi=.int .i64 k/\k<=n/\Hid (la.take k=lb.take k)/\Below w.heap.size w wr) (λvi _=>n - (intOf vi).toNat)
  case atStart=>exact ⟨0,rfl,by omega,rfl,Below.refl _ _⟩
  case round =>
   obtain ⟨k,rfl,hk,hr,hb⟩:=hrel;by_cases hlt:k < n
   ·obtain ⟨ad,o,rfl,hg,c0,c1,c2⟩:=dX.at_ (aQ.below hla hb) hlt;obtain ⟨jL,o2,rfl,hg2,d0,d1,d2⟩:=dX.at_ (aQ.below hlb hb) hlt;have HN:=zC (abV hg hg2 hr.out);have k0:(0:Int)<=(k:Int):=by omega
    have k1:(k:Int) < (n:Int):=by omega
    clear hg hg2;cases e1:(o.set == o2.set)
    ·have HX:=zC (λh=>(show ¬ o=o2 from λe=>by rw [e] at e1;simp at e1) (HN.out.1 h));go_wp2_with fail;go_quiet (fail);go_wp2_with fail;go_ret;exact ⟨ay (Eq.symm (zI (λh=>HX.out (by rw [h])))),below_drewN hb _⟩
    cases e2:(o.last == o2.last)
    ·have HX:=zC (λh=>(show ¬ o=o2 from λe=>by rw [e] at e2;simp at e2) (HN.out.1 h));go_wp2_with fail;go_quiet (fail);go_wp2_with fail;go_ret;exact ⟨ay (Eq.symm (zI (λh=>HX.out (by rw [h])))),below_drewN hb _⟩
    cases e3:(o.time == o2.time)
    ·have HX:=zC (λh=>(show ¬ o=o2 from λe=>by rw [e] at e3;simp at e3) (HN.out.1 h));go_wp2_with fail;go_quiet (fail);go_wp2_with fail;go_ret;exact ⟨ay (Eq.symm (zI (λh=>HX.out (by rw [h])))),below_drewN hb _⟩
    have HX:=zC (HN.out.2 (Lb.eq_iff.2 ⟨by simpa using e1,by simpa using e2,by simpa using e3⟩));go_wp2_with fail;go_quiet (fail);go_wp2_with fail;go_roundw
    case rel=>exact ⟨k + 1,by go_num,by omega,HX.out,below_drewN hb _⟩
    case measure=>simp [intOf];omega
   ·have HX:=zC (show la=lb by
     have h:=hr.out;rw [List.take_of_length_le (by rw [<-hla.1];omega),List.take_of_length_le (by rw [<-hlb.1];omega)] at h;exact h)
    go_wp2_with fail;go_ret;exact ⟨ay (Eq.symm (zH HX.out)),hb⟩
 ·have HX:=zC (show ¬ la=lb from λh=>hnm (by rw [hla.1,hlb.1,h]));have q1:(((n:Nat):Int) != ((m:Nat):Int))=true:=by simp;omega
  go_enter Tryz.func83,Tryz.ntmps83;go_wp2_with fail;go_ret;exact ⟨ay (Eq.symm (zI HX.out)),Below.refl _ _⟩
theorem ai2 (A B:Option Addr) (n m c d:Nat) (la lb:List BV) (w:World) (ha:fA w A n la) (hb:fA w B m lb) (h:la.map BV.pr=lb.map BV.pr) (hn:n<=1000000000) (hs:∀ y ∈ la,y.vn<=1000000000/\y.ln<=1000000000) :
  Calls Tryz.prog 25 #[.slice A n c,.slice B m d] w λe w'=>e=.returned (.bool true)/\Below w.heap.size w w':=by
 obtain rfl:m=n:=by
  have:=congrArg List.length h;rw [List.length_map,List.length_map] at this;rw [ha.1.1,hb.1.1,this]
 have HM:=zC h;clear h;have ee:∀ z:Int,(z != z)=false:=λz=>by simp
 go_enter Tryz.func25,Tryz.ntmps25;go_wp2_with fail;go_loopw [5] (λv wr=>∃ k:Nat,v=.int .i64 k/\k<=m/\Below w.heap.size w wr) (λv _=>m - (intOf v).toNat)
 case atStart=>exact ⟨0,rfl,Nat.zero_le _,Below.refl _ _⟩
 case round =>
  obtain ⟨k,rfl,hk,hbr⟩:=hrel;by_cases hlt:k < m
  ·obtain ⟨ad,p,hA,hp,⟨hI1,hI2⟩,c0,c1,c2⟩:=(ha.below hbr).at_ hlt;obtain ⟨jL,q,hB,hq2,⟨hJ1,hJ2⟩,d0,d1,d2⟩:=(hb.below hbr).at_ hlt;have hpq:p.pr=q.pr:=by
    have e1:(la.map BV.pr)[k]? = some p.pr:=by rw [List.getElem?_map,hp];rfl
    rw [HM.out,List.getElem?_map,hq2] at e1;injection e1 with e1;exact e1.symm
   obtain ⟨hpv,hpl⟩:=hs p (zD hp);have e1:p.sh=q.sh:=congrArg (λz=>z.1) hpq;have e2:p.v=q.v:=congrArg (λz=>z.2.1) hpq;have e3:p.lb=q.lb:=congrArg (λz=>z.2.2) hpq;have Yq:q.vn<=1000000000:=by rw [hJ1.1,<-e2,<-hI1.1];exact hpv
   have Bo:q.ln<=1000000000:=by rw [hJ2.1,<-e3,<-hI2.1];exact hpl
   have C1:∀ i:ah wr,Calls Tryz.prog 50 #[.slice p.V p.vn p.vc,.slice q.V q.vn q.vc] i.val λe w'=>e=.returned (.bool true)/\Below i.val.heap.size i.val w':=λi=>by
    have h9:=BZ p.V q.V p.vn q.vn p.vc q.vc p.v q.v i.val (hI1.below i.property) (hJ1.below i.property) hpv Yq;rw [zH e2] at h9;exact h9
   have C2:∀ i:ah wr,Calls Tryz.prog 83 #[.slice p.LA p.ln p.lc,.slice q.LA q.ln q.lc] i.val λe w'=>e=.returned (.bool true)/\Below i.val.heap.size i.val w':=λi=>by
    have h9:=abA p.LA q.LA p.ln q.ln p.lc q.lc p.lb q.lb i.val (aQ.below hI2 i.property) (aQ.below hJ2 i.property) hpl Bo;rw [zH e3] at h9;exact h9
   have k0:(0:Int)<=(k:Int):=by omega
   have k1:(k:Int) < (m:Int):=by omega
   rw [<-e1] at d0;have a0:=ah.cell c0;have a1:=ah.cell c1;have a2:=ah.cell c2;have b0:=ah.cell d0;have b1:=ah.cell d1;have b2:=ah.cell d2;clear hp hq2 hpq hpv hpl Yq Bo hI1 hI2 hJ1 hJ2 c0 c1 c2 d0 d1 d2 e1 e2 e3;rw [hA,hB];clear hA hB;go_upto_region 6 with fail;refine dU (by kernel_rfl) (by kernel_rfl) ?_;repeat (go_big_quiet_step ((first | (go_at_call 50;exact ah.calls (C1 _)) | (go_at_call 83;exact ah.calls (C2 _)))))
   refine wpQuiet_nil ?_;rintro w4 ⟨⟨w4,b4⟩,rfl⟩;have hb4:=bel hbr b4;clear C1 C2 a0 a1 a2 b0 b1 b2;go_wp2_with fail;go_roundw
   case rel=>exact ⟨k + 1,by go_num,hlt,hb4⟩
   case measure=>simp [intOf];omega
  ·have hd:decide ((k:Int) < (m:Int))=false:=by simp;omega
   have hd2:decide (k < m)=false:=by simp;omega
   go_wp2_with fail;go_ret;exact ⟨rfl,hbr⟩
theorem ahg (V:Option Addr) (vn vc:Nat) (v:List Int) (w:World) (hV:Ints w V vn v) (h1:v.Pairwise (· < ·)) (h2:∀ i ∈ v,0<=i/\i < 6) :
  Calls Tryz.prog 72 #[.slice V vn vc] w λe w'=>e=.returned (.int .i64 (K.num v))/\w=w':=by
 obtain ⟨s6,h6⟩:=K.FU h1 h2;have H6:=zC h6;have HL:=zC hV.1;have bJ:vn<=6:=by rw [hV.1];exact h6.len
 clear h6;go_enter Tryz.func72,Tryz.ntmps72;go_wp2_with fail;go_loopw [3,4] (λv3 v4 wr=>∃ j:Nat,v4=.int .i64 j/\j<=vn/\v3=.int .i64 (K.num (v.take j))/\w=wr) (λ_ v4 _=>vn - (intOf v4).toNat)
 case atStart=>exact ⟨0,rfl,Nat.zero_le _,rfl,rfl⟩
 case round =>
  obtain ⟨j,rfl,hj,rfl,rfl⟩:=hrel;by_cases hlt:j < vn
  ·obtain ⟨iM,i,OT,hi,ci⟩:=hV.at_ hlt;obtain ⟨g1,g2,g3,g4⟩:=H6.out.at_ hi;have aV:=zC (H6.out.next hi);obtain ⟨i,rfl⟩:∃ n:Nat,i=(n:Int):=⟨i.toNat,by omega⟩;rw [Int.toNat_natCast] at g2 aV;obtain ⟨nm,hnm⟩:=zB (K.num (v.take j));rw [<-hnm] at g1 g2 aV ⊢;obtain ⟨mm,hmm⟩:=zB (nm + 2 ^ i);have hor:bits BinOp.or IntKind.i64 (nm:Int) (IntKind.i64.wrap (2 ^ i))=(mm:Int):=by rw [pz (by omega),Hy g1 (by omega) g2,hmm]
   have Yk:bits BinOp.or IntKind.i64 (nm:Int) (wrap64 (2 ^ i))=(mm:Int):=by rw [<-IntWalk.i64_left];exact hor
   have HM:=zC (show K.num (v.take (j + 1))=mm by rw [aV.out,hmm]);have k0:(0:Int)<=(j:Int):=by omega
   have k1:(j:Int) < (vn:Int):=by omega
   have k2:(0:Int)<=(i:Int):=by omega
   have k3:(i:Int) < 64:=by omega
   clear hi hmm hnm aV g1 g2 g3 g4;rw [OT];go_wp2_with fail;go_roundw
   case rel=>(go_light;exact ⟨j + 1,by go_num,hlt,by rw [HM.out],(by first | rfl | trivial)⟩)
   case measure=>(go_light;simp [intOf];omega)
  ·have hd:decide ((j:Int) < (vn:Int))=false:=by simp;omega
   have hd2:decide (j < vn)=false:=by simp;omega
   have HX:=zC (show v.take j=v from List.take_of_length_le (by rw [<-HL.out];omega));rw [HX.out];go_wp2_with fail;go_ret;first | exact ⟨rfl,rfl⟩ | exact rfl | trivial
theorem ai4 (A B:Option Addr) (n m c d:Nat) (la lb:List S) (w:World) (ha:Shifts w A n la) (hb:Shifts w B m lb) (h:la.map S.bare=lb.map S.bare) (hn:n<=1000000000) (hs:∀ y ∈ la,y.n<=1000000000) :
  Calls Tryz.prog 49 #[.slice A n c,.slice B m d] w λe w'=>e=.returned (.bool true)/\Below w.heap.size w w':=by
 obtain rfl:m=n:=by
  have:=congrArg List.length h;rw [List.length_map,List.length_map] at this;rw [ha.1.1,hb.1.1,this]
 have HM:=zC h;clear h;have ee:∀ z:Int,(z != z)=false:=λz=>by simp
 go_enter Tryz.func49,Tryz.ntmps49;go_wp2_with fail;go_loopw [5] (λv wr=>∃ k:Nat,v=.int .i64 k/\k<=m/\Below w.heap.size w wr) (λv _=>m - (intOf v).toNat)
 case atStart=>exact ⟨0,rfl,Nat.zero_le _,Below.refl _ _⟩
 case round =>
  obtain ⟨k,rfl,hk,hbr⟩:=hrel;by_cases hlt:k < m
  ·obtain ⟨ad,p,hA,hp,hI,a0,a1,a2,a3,a4,a5⟩:=(ha.below hbr).at_ hlt;obtain ⟨jL,q,hB,hq,hJ,b0,b1,b2,b3,b4,b5⟩:=(hb.below hbr).at_ hlt;have hpq:p.bare=q.bare:=by
    have e1:(la.map S.bare)[k]? = some p.bare:=by rw [List.getElem?_map,hp];rfl
    rw [HM.out,List.getElem?_map,hq] at e1;injection e1 with e1;exact e1.symm
   have hpn:=hs p (zD hp);have e0:p.day=q.day:=(congrArg S.day hpq:p.bare.day=q.bare.day);have e1:p.ag=q.ag:=(congrArg S.ag hpq:p.bare.ag=q.bare.ag);have e2:p.start=q.start:=(congrArg S.start hpq:p.bare.start=q.bare.start);have e3:p.end_=q.end_:=(congrArg S.end_ hpq:p.bare.end_=q.bare.end_);have e4:p.aj=q.aj:=(congrArg S.aj hpq:p.bare.aj=q.bare.aj);have e5:p.l=q.l:=(congrArg S.l hpq:p.bare.l=q.bare.l);have dL:q.n<=1000000000:=by rw [hJ.1,<-e5,<-hI.1];exact hpn
   obtain ⟨w6,hw6⟩:=zB (wr.alloc (.cells #[.int .i64 p.day,.int .i64 p.ag,.int .i64 p.start,.int .i64 p.end_,.int .i64 p.aj,.slice p.A p.n p.c] 63));obtain ⟨g6,jq⟩:=zB wr.heap.size;have c6:=zA hw6;have hP6:aT w6 g6 p:=by rw [hw6,jq];exact aT.new _ _
   have k0:(0:Int)<=(k:Int):=by omega
   have k1:(k:Int) < (m:Int):=by omega
   have Sz:∀ w',Below wr.heap.size wr w'->Calls Tryz.prog 50 #[.slice p.A p.n p.c,.slice q.A q.n q.c] w' λe w''=>e=.returned (.bool true)/\Below w'.heap.size w' w'':=λw' hb'=>by
    have h9:=BZ p.A q.A p.n q.n p.c q.c p.l q.l w' (hI.below hb') (hJ.below hb') hpn dL;rw [zH e5] at h9;exact h9
   have acd:=zC Sz;rw [<-e0] at b0;rw [<-e1] at b1;rw [<-e2] at b2;rw [<-e3] at b3;rw [<-e4] at b4;rw [hA,hB];clear hp hq hpq hA hB e0 e1 e2 e3 e4 e5 Sz hpn dL hI hJ;go_upto_region 7 with fail;rw [<-hw6,<-jq];clear hw6 jq a0 a1 a2 a3 a4 a5;have b0:=(c6.cell (cell_lt b0)).trans b0;have b1:=(c6.cell (cell_lt b1)).trans b1;have b2:=(c6.cell (cell_lt b2)).trans b2;have b3:=(c6.cell (cell_lt b3)).trans b3;have b4:=(c6.cell (cell_lt b4)).trans b4;have b5:=(c6.cell (cell_lt b5)).trans b5;obtain ⟨w7,hw7⟩:=zB (w6.alloc (.cells #[.int .i64 p.day,.int .i64 p.ag,.int .i64 p.start,.int .i64 p.end_,.int .i64 p.aj,.slice q.A q.n q.c] 63));obtain ⟨g7,qx⟩:=zB w6.heap.size;have c7:=zA hw7;have hL7:w7.heap[g7]? = some (.cells #[.int .i64 p.day,.int .i64 p.ag,.int .i64 p.start,.int .i64 p.end_,.int .i64 p.aj,.slice q.A q.n q.c] 63 (0,0)):=by rw [hw7,qx];exact heap_alloc_new _ _
   go_upto_region 8 with fail;rw [<-hw7,<-qx];clear hw7 qx b0 b1 b2 b3 b4 b5;obtain ⟨a0,a1,a2,a3,a4,a5⟩:=(hP6.below c7).cells;have b0:=af hL7 0 _ rfl;have b1:=af hL7 1 _ rfl;have b2:=af hL7 2 _ rfl;have b3:=af hL7 3 _ rfl;have b4:=af hL7 4 _ rfl;have b5:=af hL7 5 _ rfl;have Va:=bel c6 c7;go_wp2_with fail;refine (acd.out _ Va).mono ?_;rintro e w8 ⟨rfl,c8⟩;have hb8:=bel hbr (bel Va c8);clear a0 a1 a2 a3 a4 a5 b0 b1 b2 b3 b4 b5;go_wp2_with fail;go_roundw
   case rel=>exact ⟨k + 1,by go_num,hlt,hb8⟩
   case measure=>simp [intOf];omega
  ·have hd:decide ((k:Int) < (m:Int))=false:=by simp;omega
   have hd2:decide (k < m)=false:=by simp;omega
   go_wp2_with fail;go_ret;exact ⟨rfl,hbr⟩
theorem ai3 (A B:Option Addr) (n m c d:Nat) (la lb:List RV) (w:World) (ha:lD w A n la) (hb:lD w B m lb) (h:la.map RV.pr=lb.map RV.pr) (hn:n<=1000000000) (hs:∀ y ∈ la,sO y.n y.bl) :
  Calls Tryz.prog 51 #[.slice A n c,.slice B m d] w λe w'=>e=.returned (.bool true)/\Below w.heap.size w w':=by
 obtain rfl:m=n:=by
  have:=congrArg List.length h;rw [List.length_map,List.length_map] at this;rw [ha.1.1,hb.1.1,this]
 have HM:=zC h;clear h;go_enter Tryz.func51,Tryz.ntmps51;go_wp2_with fail;go_loopw [5] (λv wr=>∃ k:Nat,v=.int .i64 k/\k<=m/\Below w.heap.size w wr) (λv _=>m - (intOf v).toNat)
 case atStart=>exact ⟨0,rfl,Nat.zero_le _,Below.refl _ _⟩
 case round =>
  obtain ⟨k,rfl,hk,hbr⟩:=hrel;by_cases hlt:k < m
  ·obtain ⟨ad,p,hA,hp,hI,c0⟩:=(ha.below hbr).at_ hlt;obtain ⟨jL,q,hB,hq,hJ,d0⟩:=(hb.below hbr).at_ hlt;have hpq:p.bl.map BV.pr=q.bl.map BV.pr:=by
    have e1:(la.map RV.pr)[k]? = some p.pr:=by rw [List.getElem?_map,hp];rfl
    rw [HM.out,List.getElem?_map,hq] at e1;injection e1 with e1;exact e1.symm
   have hpf:=hs p (zD hp);have CT:∀ i:ah wr,Calls Tryz.prog 25 #[.slice p.A p.n p.c,.slice q.A q.n q.c] i.val λe w'=>e=.returned (.bool true)/\Below i.val.heap.size i.val w':=λi =>
    ai2 p.A q.A p.n q.n p.c q.c p.bl q.bl i.val (hI.below i.property) (hJ.below i.property) hpq hpf.1 (λy hy=>by have:=hpf.2 y hy;omega)
   have k0:(0:Int)<=(k:Int):=by omega
   have k1:(k:Int) < (m:Int):=by omega
   have a0:=ah.cell c0;have b0:=ah.cell d0;rw [hA,hB];clear hp hq hpq hpf hI hJ c0 d0 hA hB;go_upto_region 6 with fail;refine dU (by kernel_rfl) (by kernel_rfl) ?_;repeat (go_big_quiet_step ((go_at_call 25;exact ah.calls (CT _))))
   refine wpQuiet_nil ?_;rintro w4 ⟨⟨w4,b4⟩,rfl⟩;have hb4:=bel hbr b4;clear CT a0 b0;go_wp2_with fail;go_roundw
   case rel=>exact ⟨k + 1,by go_num,hlt,hb4⟩
   case measure=>simp [intOf];omega
  ·have hd:decide ((k:Int) < (m:Int))=false:=by simp;omega
   have hd2:decide (k < m)=false:=by simp;omega
   go_wp2_with fail;go_ret;exact ⟨rfl,hbr⟩
namespace K
def ZE (m:Nat):Nat:=m % 2 + m / 2 % 2 + m / 4 % 2 + m / 8 % 2
theorem adb:∀ n:Fin 5,∀ m:Fin 16,m.val < 2 ^ n.val->num (part (iota n.val) m.val)=m.val/\ZE m.val=(part (iota n.val) m.val).length:=by decide +kernel
theorem Jz (n:Nat):(iota n).length=n:=by unfold iota;rw [List.length_map,List.length_range]
theorem ahH {n m:Nat} (hn:n<=4) (hm:m < 2 ^ n):num (part (iota n) m)=m/\ZE m=(part (iota n) m).length:=by
 have h16:m < 16:=Nat.lt_of_lt_of_le hm (Nat.pow_le_pow_right (by decide) hn);exact adb ⟨n,by omega⟩ ⟨m,h16⟩ hm
end K
namespace A
theorem abM (s:Nat):∀ (d e:List Nat) (i:Int),share (d ++ e) s i=share d s i ++ share e s (i + d.length)
 | [],e,i=>by simp [share]
 | x :: d,e,i=>by
  rw [List.cons_append,share,share,abM s d e (i + 1),List.length_cons];have h:i + 1 + (d.length:Int)=i + ((d.length + 1:Nat):Int):=by omega
  rw [h];split <;> rfl
def next (m:Nat):List Nat->Option (List Nat)
 | []=>none
 | x :: d=>match next m d with
  | some d'=>some (x :: d')
  | none=>if x + 1 < m then some ((x + 1) :: List.replicate d.length 0) else none
def Chain (m:Nat) (L:List (List Nat)) (z:Option (List Nat)):Prop:=∀ pre x post,L=pre ++ x :: post->next m x=(post.head?).or z
theorem chain_nil (m:Nat) (z:Option (List Nat)):Chain m [] z:=λpre x post h=>by simp at h
theorem adH {m:Nat}:∀ {L1 L2:List (List Nat)} {z:Option (List Nat)},Chain m L1 ((L2.head?).or z)->Chain m L2 z->Chain m (L1 ++ L2) z:=by
 intro L1 L2 z h1 h2 pre x post h;rcases List.append_eq_append_iff.1 h with ⟨a,e1,e2⟩ | ⟨a,e1,e2⟩
 ·-- pre=L1 ++ a,L2=a ++ x :: post
  exact h2 a x post e2
 ·-- L1=pre ++ a,x :: post=a ++ L2
  cases a with
  | nil =>
   rw [List.nil_append] at e2;exact h2 [] x post e2.symm
  | cons b a =>
   rw [List.cons_append] at e2;injection e2 with e3 e4;subst e3;have:=h1 pre x a e1;rw [this,e4];cases a with
   | nil=>rfl
   | cons c a=>rfl
theorem NK {m:Nat} (hm:0 < m):∀ k,(exts m k).head? = some (List.replicate k 0)
 | 0=>rfl
 | k + 1=>by
  obtain ⟨m',rfl⟩:∃ m',m=m' + 1:=⟨m - 1,by omega⟩;rw [exts,List.range_succ_eq_map,List.flatMap_cons,List.head?_append,List.head?_map,NK hm k];rfl
theorem Vf {m:Nat} (hm:0 < m):∀ k,Chain m (exts m k) none
 | 0=>λpre x post h=>by
  cases pre with
  | nil =>
   rw [exts,List.nil_append] at h;injection h with h1 h2;subst h1 h2;rfl
  | cons b pre =>
   rw [exts,List.cons_append] at h;injection h with h1 h2;exact absurd h2 (by simp)
 | k + 1=>by
  have ih:=Vf hm k;have hb:∀ s,Chain m ((exts m k).map (s :: ·)) (if s + 1 < m then some ((s + 1) :: List.replicate k 0) else none):=λs pre x post h=>by
   obtain ⟨L1,L2,e0,e1,e2⟩:=List.map_eq_append_iff.1 h;cases L2 with
   | nil=>cases e2
   | cons y L2 =>
    rw [List.map_cons] at e2;injection e2 with e3 e4;subst e3 e4;have hy:=ih L1 y L2 e0;have hyl:y.length=k:=(o5.1 (show y ∈ exts m k by rw [e0];simp)).1;rw [next,hy,hyl];cases L2 with
    | nil=>rfl
    | cons c L2=>rfl
  have hr:∀ n s,s + n=m->Chain m ((List.range' s n).flatMap λs=>(exts m k).map (s :: ·)) none:=by
   intro n;induction n with
   | zero=>intro s _;exact chain_nil m none
   | succ n ihn =>
    intro s hs;rw [List.range'_succ,List.flatMap_cons];refine adH ?_ (ihn (s + 1) (by omega));have h1:=hb s;have h2:(if s + 1 < m then some ((s + 1) :: List.replicate k 0) else none)=(((List.range' (s + 1) n).flatMap λs=>(exts m k).map (s :: ·)).head?).or none:=by
     cases n with
     | zero=>rw [if_neg (by omega)];rfl
     | succ n =>
      rw [if_pos (by omega),List.range'_succ,List.flatMap_cons,List.head?_append,List.head?_map,NK hm k];rfl
    rw [<-h2];exact h1
  have:=hr m 0 (by omega);rw [exts,List.range_eq_range'];exact this
theorem ZO {m k j:Nat} (hm:0 < m) {d:List Nat} (h:(exts m k)[j]? = some d):next m d=(exts m k)[j + 1]?:=by
 obtain ⟨hj,e⟩:=zE.1 h;have:=Vf hm k ((exts m k).take j) d ((exts m k).drop (j + 1)) (by rw [<-e,<-List.drop_eq_getElem_cons hj,List.take_append_drop]);rw [this,List.head?_drop];cases (exts m k)[j + 1]? <;> rfl
theorem ZN {m:Nat}:∀ (d:List Nat) (i:Nat),next m (d.drop (i + 1))=none->∀ x,d[i]? = some x->next m (d.drop i)=if x + 1 < m then some ((x + 1) :: List.replicate (d.length - (i + 1)) 0) else none:=by
 intro d i h x hx;obtain ⟨hi,e⟩:=zE.1 hx;rw [List.drop_eq_getElem_cons hi,e,next,h,List.length_drop]
theorem ZP {m:Nat}:∀ (pre d d':List Nat),next m d=some d'->next m (pre ++ d)=some (pre ++ d')
 | [],d,d',h=>h
 | x :: pre,d,d',h=>by rw [List.cons_append,next,ZP pre d d' h];rfl
end A
namespace A
def val (m:Nat):List Nat->Nat
 | []=>0
 | x :: d=>x * m ^ d.length + val m d
theorem val_zero (m:Nat):∀ n,val m (List.replicate n 0)=0
 | 0=>rfl
 | n + 1=>by rw [List.replicate_succ,val,val_zero m n,Nat.zero_mul]
theorem RZ {m:Nat}:∀ {d:List Nat},(∀ s ∈ d,s < m)->val m d < m ^ d.length
 | [],_=>by simp [val]
 | x :: d,h=>by
  have h1:=h x (List.mem_cons_self ..);have h2:=RZ λs hs=>h s (List.mem_cons_of_mem _ hs);rw [val,List.length_cons,Nat.pow_succ];have h3:(x + 1) * m ^ d.length<=m * m ^ d.length:=Nat.mul_le_mul_right _ h1;rw [Nat.succ_mul] at h3;rw [Nat.mul_comm (m ^ d.length) m];omega
theorem R_ {m:Nat}:∀ {d:List Nat},(∀ s ∈ d,s < m)->(∀ d',next m d=some d'->val m d'=val m d + 1/\d'.length=d.length/\∀ s ∈ d',s < m)/\(next m d=none->val m d + 1=m ^ d.length)
 | [],_=>⟨λd' h=>(by cases h),λ_=>by simp [val]⟩
 | x :: d,h=>by
  have h1:=h x (List.mem_cons_self ..);have hd:∀ s ∈ d,s < m:=λs hs=>h s (List.mem_cons_of_mem _ hs);obtain ⟨i1,i2⟩:=R_ hd;cases hn:next m d with
  | some d1 =>
   obtain ⟨g1,g2,g3⟩:=i1 d1 hn;refine ⟨λd' h'=>?_,λh'=>?_⟩
   ·rw [next,hn] at h';injection h' with h';subst h';refine ⟨by rw [val,val,g1,g2];omega,by rw [List.length_cons,List.length_cons,g2],λs hs=>?_⟩;rcases List.mem_cons.1 hs with rfl | hs
    ·exact h1
    ·exact g3 s hs
   ·rw [next,hn] at h';cases h'
  | none =>
   have i3:=i2 hn;by_cases hx:x + 1 < m
   ·refine ⟨λd' h'=>?_,λh'=>?_⟩
    ·rw [next,hn] at h';dsimp only at h';rw [if_pos hx] at h';injection h' with h';subst h';refine ⟨by rw [val,val,val_zero,List.length_replicate,Nat.succ_mul];omega,by simp,λs hs=>?_⟩;rcases List.mem_cons.1 hs with rfl | hs
     ·exact hx
     ·have:=List.eq_of_mem_replicate hs;omega
    ·rw [next,hn] at h';dsimp only at h';rw [if_pos hx] at h';cases h'
   ·refine ⟨λd' h'=>?_,λ_=>?_⟩
    ·rw [next,hn] at h';dsimp only at h';rw [if_neg hx] at h';cases h'
    ·have e:m=x + 1:=by omega
     rw [val,List.length_cons,Nat.pow_succ,Nat.mul_comm (m ^ d.length) m];have h3:m * m ^ d.length=x * m ^ d.length + m ^ d.length:=by
      conv=>lhs;rw [show m * m ^ d.length=(x + 1) * m ^ d.length by rw [<-e]]
      rw [Nat.succ_mul]
     omega
theorem VJ {m:Nat} (hm:0 < m) (k:Nat):(exts m k)[0]? = some (List.replicate k 0):=by
 rw [<-NK hm k,List.head?_eq_getElem?]
theorem aen {B:Nat->List Int->Bool} {m n j:Nat} {d:List Nat} (hj:(exts m n)[j]? = some d) (hb:∀ e ∈ (exts m n).take j,possible B m e=false) (hd:possible B m d=true):first B m n=some d:=by
 obtain ⟨hl,e⟩:=zE.1 hj;unfold first;have h1:exts m n=(exts m n).take j ++ d :: (exts m n).drop (j + 1):=by rw [<-e,<-List.drop_eq_getElem_cons hl,List.take_append_drop]
 rw [h1,List.find?_append,List.find?_eq_none.2 (λx hx=>by rw [hb x hx];simp),Option.none_or,List.find?_cons_of_pos hd]
theorem aeo {B:Nat->List Int->Bool} {m n:Nat} (hb:∀ e ∈ exts m n,possible B m e=false):first B m n=none:=by
 unfold first;exact List.find?_eq_none.2 λx hx=>by rw [hb x hx];simp
end A
end Go.Proofs.YtippdjmpkafifaaGreat
