import Derived.Test.YtippdjmpkafifaaGreatCF14
import Derived.Test.YtippdjmpkafifaaGreatCF13
import Derived.Deep.AppendLies
import Derived.Deep.RegionLaw
namespace Go.Proofs.YtippdjmpkafifaaGreat
open Go.RowKit
theorem results_tmp4 {fn:Func} {t u v x:Tmp} (h:fn.results=#[.tmp t,.tmp u,.tmp v,.tmp x]) (tmps:Array Value) (P:Program) (w:World) :
  (results fn tmps).run P w=.ok (.tuple #[tmps.getD t undef,tmps.getD u undef,tmps.getD v undef,tmps.getD x undef]) w:=by simp [results,h]
def Ft (A:Option Addr) (n:Nat) (g:Nat):Prop:=0 < n∧∃ ad,A=some ad∧ad.block=g
def Sm (w w':World) (U:Nat→Prop):Prop:=∀ g,U g→g < w.heap.size→w'.heap[g]? = w.heap[g]?
theorem Rd.sm {w w':World} {s n:Nat} {A:Option Addr} {xs:List Value} (h:Rd w s A n xs) (hs:Sm w w' (Ft A n)):Rd w' s A n xs:=by
 refine ⟨h.1,fun h0=>?_⟩
 obtain ⟨ad,e,hc⟩:=h.2 h0
 refine ⟨ad,e,fun j u hu=>?_⟩
 have c:=hc j u hu
 have hl:=cell_lt c
 rw [add_block] at hl
 exact (World.cell?_of_block (by rw [add_block];exact hs _ ⟨h0,ad,e,rfl⟩ hl)).trans c
theorem Rd.ft_lt {w:World} {s n:Nat} {A:Option Addr} {xs:List Value} (h:Rd w s A n xs) (h0s:0 < s) {g:Nat} (hg:Ft A n g):g < w.heap.size:=by
 obtain ⟨h0,ad,e,rfl⟩:=hg
 obtain ⟨ad',e',hc⟩:=h.2 h0
 rw [e] at e'
 injection e' with e'
 subst e'
 have hl:0 < xs.length:=by rw [h.1];exact Nat.mul_pos h0 h0s
 have c:=hc 0 _ (List.getElem?_eq_getElem hl)
 have:=cell_lt c
 rwa [add_block] at this
theorem Sm.mono {w w':World} {U V:Nat→Prop} (h:Sm w w' U) (hV:∀ g,V g→U g):Sm w w' V:=fun g hg=>h g (hV g hg)
theorem Sm.grown {w w':World} {U:Nat→Prop} {v:Value} (hg:w.grownBy w' v.ownBlock) (h:∀ g,U g→v.ownBlock ≠ some g):Sm w w' U:=fun g hu hl=>hg.block g hl fun e=>h g hu e.symm
def UT (A:Option Addr) (n:Nat) (ts:List TV) (g:Nat):Prop:=Ft A n g∨∃ y ∈ ts,Ft y.A y.n g∨Ft y.A' y.n' g
def UQ (A:Option Addr) (n:Nat) (r:List Q) (g:Nat):Prop:=Ft A n g∨∃ q ∈ r,Ft q.A q.n g
def UB (A:Option Addr) (n:Nat) (bl:List BV) (g:Nat):Prop:=Ft A n g∨∃ y ∈ bl,Ft y.V y.vn g∨Ft y.LA y.ln g
theorem Tours.sm {w w':World} {A:Option Addr} {n:Nat} {ts:List TV} (h:Tours w A n ts) (hs:Sm w w' (UT A n ts)):Tours w' A n ts :=
 ⟨⟨h.1.1,h.1.2.sm (hs.mono fun _ e=>.inl e)⟩,fun y hy=>⟨⟨(h.2 y hy).1.1,(h.2 y hy).1.2.sm (hs.mono fun _ e=>.inr ⟨y,hy,.inl e⟩)⟩,⟨(h.2 y hy).2.1,(h.2 y hy).2.2.sm (hs.mono fun _ e=>.inr ⟨y,hy,.inr e⟩)⟩⟩⟩
theorem Tours.ft_lt {w:World} {A:Option Addr} {n:Nat} {ts:List TV} (h:Tours w A n ts) {g:Nat} (hg:UT A n ts g):g < w.heap.size:=by
 rcases hg with e | ⟨y,hy,e | e⟩
 ·exact h.1.2.ft_lt (by decide) e
 ·exact (h.2 y hy).1.2.ft_lt (by decide) e
 ·exact (h.2 y hy).2.2.ft_lt (by decide) e
theorem Reqs.sm {w w':World} {A:Option Addr} {n:Nat} {r:List Q} (h:Reqs w A n r) (hs:Sm w w' (UQ A n r)):Reqs w' A n r :=
 ⟨h.1,h.2.1.sm (hs.mono fun _ e=>.inl e),fun q hq=>⟨(h.2.2 q hq).1,(h.2.2 q hq).2.sm (hs.mono fun _ e=>.inr ⟨q,hq,e⟩)⟩⟩
theorem Reqs.ft_lt {w:World} {A:Option Addr} {n:Nat} {r:List Q} (h:Reqs w A n r) {g:Nat} (hg:UQ A n r g):g < w.heap.size:=by
 rcases hg with e | ⟨q,hq,e⟩
 ·exact h.2.1.ft_lt (by decide) e
 ·exact (h.2.2 q hq).2.ft_lt (by decide) e
theorem Blks.sm {w w':World} {A:Option Addr} {n:Nat} {bl:List BV} (h:Blks w A n bl) (hs:Sm w w' (UB A n bl)):Blks w' A n bl :=
 ⟨⟨h.1.1,h.1.2.sm (hs.mono fun _ e=>.inl e)⟩,fun y hy=>⟨⟨(h.2 y hy).1.1,(h.2 y hy).1.2.sm (hs.mono fun _ e=>.inr ⟨y,hy,.inl e⟩)⟩,⟨(h.2 y hy).2.1,(h.2 y hy).2.2.sm (hs.mono fun _ e=>.inr ⟨y,hy,.inr e⟩)⟩⟩⟩
theorem Blks.ft_lt {w:World} {A:Option Addr} {n:Nat} {bl:List BV} (h:Blks w A n bl) {g:Nat} (hg:UB A n bl g):g < w.heap.size:=by
 rcases hg with e | ⟨y,hy,e | e⟩
 ·exact h.1.2.ft_lt (by decide) e
 ·exact (h.2 y hy).1.2.ft_lt (by decide) e
 ·exact (h.2 y hy).2.2.ft_lt (by decide) e
structure RV where
 A:Option Addr
 n:Nat
 c:Nat
 bl:List BV
def RV.cells (y:RV):List Value:=[.slice y.A y.n y.c]
def RV.pr (y:RV):List (Int × List Int × List Lb):=y.bl.map BV.pr
def Rsn (w:World) (A:Option Addr) (n:Nat) (l:List RV):Prop:=Lst RV.cells 1 w A n l∧∀ y ∈ l,Blks w y.A y.n y.bl
def FewR (n:Nat) (l:List RV):Prop:=n≤1000000∧∀ y ∈ l,FewB y.n y.bl∧y.n≤y.c
theorem Rsn.below {w w':World} {A:Option Addr} {n:Nat} {l:List RV} (h:Rsn w A n l) (hb:Below w.heap.size w w'):Rsn w' A n l:=⟨Lst.below h.1 hb,fun y hy=>(h.2 y hy).below hb⟩
structure KD where
 kept:List Int
 L:List RV
 TA:Option Addr
 tn:Nat
 tc:Nat
 ts:List TV
 SA:Option Addr
 sn:Nat
 sc:Nat
 sv:List Q
def KD.uses (d:KD) (g:Nat):Prop:=UT d.TA d.tn d.ts g∨UQ d.SA d.sn d.sv g∨∃ y ∈ d.L,UB y.A y.n y.bl g
structure KAt (w:World) (B:Nat) (v4 v6:Value) (d:KD):Prop where
 row4:w.ownsRow B 3 1 v4 d.kept.length (intCells d.kept)
 row6:w.ownsRow B 28 1 v6 d.L.length (d.L.flatMap RV.cells)
 ne:∀ g,v4.ownBlock=some g→v6.ownBlock ≠ some g
 tours:Tours w d.TA d.tn d.ts
 tcap:d.tn≤d.tc∧∀ y ∈ d.ts,y.n≤y.c
 served:Reqs w d.SA d.sn d.sv
 reasons:∀ y ∈ d.L,Blks w y.A y.n y.bl
 few:∀ y ∈ d.L,FewB y.n y.bl∧y.n≤y.c
 off4:∀ g,d.uses g→v4.ownBlock ≠ some g
 off6:∀ g,d.uses g→v6.ownBlock ≠ some g
theorem KAt.below {w w':World} {B:Nat} {v4 v6:Value} {d:KD} (h:KAt w B v4 v6 d) (hb:Below w.heap.size w w'):KAt w' B v4 v6 d :=
 ⟨own_below h.row4 hb,own_below h.row6 hb,h.ne,h.tours.below hb,h.tcap,h.served.below hb,fun y hy=>(h.reasons y hy).below hb,h.few,h.off4,h.off6⟩
theorem KAt.lt {w:World} {B:Nat} {v4 v6:Value} {d:KD} (h:KAt w B v4 v6 d) {g:Nat} (hg:d.uses g):g < w.heap.size:=by
 rcases hg with e | e | ⟨y,hy,e⟩
 ·exact h.tours.ft_lt e
 ·exact h.served.ft_lt e
 ·exact (h.reasons y hy).ft_lt e
theorem KAt.zero (w:World) (B:Nat):KAt w B (.slice none 0 0) (.slice none 0 0) ⟨[],[],none,0,0,[],none,0,0,[]⟩:=by
 have hn:∀ g,¬ KD.uses ⟨[],[],none,0,0,[],none,0,0,[]⟩ g:=by
  rintro g ((⟨h,-⟩ | ⟨y,hy,-⟩) | (⟨h,-⟩ | ⟨y,hy,-⟩) | ⟨y,hy,-⟩)
  ·exact absurd h (Nat.lt_irrefl 0)
  ·cases hy
  ·exact absurd h (Nat.lt_irrefl 0)
  ·cases hy
  ·cases hy
 exact ⟨World.ownsRow_nil _ _ _ _,World.ownsRow_nil _ _ _ _,fun g e=>(by cases e),⟨⟨rfl,rfl,fun h=>absurd h (by decide)⟩,fun y h=>(by cases h)⟩,⟨Nat.le_refl _,fun y h=>(by cases h)⟩,⟨rfl,⟨rfl,fun h=>absurd h (by decide)⟩,fun y h=>(by cases h)⟩,fun y h=>(by cases h),fun y h=>(by cases h),fun g h=>absurd h (hn g),fun g h=>absurd h (hn g)⟩
theorem KAt.sm {w w':World} {B:Nat} {v4 v6:Value} {d:KD} (h:KAt w B v4 v6 d) (hs:Sm w w' d.uses):Tours w' d.TA d.tn d.ts∧Reqs w' d.SA d.sn d.sv∧∀ y ∈ d.L,Blks w' y.A y.n y.bl :=
 ⟨h.tours.sm (hs.mono fun _ e=>.inl e),h.served.sm (hs.mono fun _ e=>.inr (.inl e)),fun y hy=>(h.reasons y hy).sm (hs.mono fun _ e=>.inr (.inr ⟨y,hy,e⟩))⟩
theorem off_grow {w:World} {v v':Value} {U:Nat→Prop} (h:∀ g,U g→v.ownBlock ≠ some g) (hl:∀ g,U g→g < w.heap.size) (ha:v'.ownBlock=v.ownBlock∨v'.ownBlock=some w.heap.size):∀ g,U g→v'.ownBlock ≠ some g:=fun g hu e=>by
 rcases ha with e3 | e3
 ·exact h g hu (e3.symm.trans e)
 ·rw [e3] at e
  injection e with e
  have:=hl g hu
  omega
theorem row_other {w w':World} {base:Nat} {e:TypeId} {size n:Nat} {v u:Value} {xs:List Value} (h:w.ownsRow base e size v n xs) (hg:w.grownBy w' u.ownBlock) (hn:∀ g,v.ownBlock=some g→u.ownBlock ≠ some g):w'.ownsRow base e size v n xs:=by
 have hlt:=own_in h
 obtain ⟨hl,h1 | ⟨g,cap,cur,hv,hbg,hh,r⟩⟩:=h
 ·exact ⟨hl,.inl h1⟩
 ·have hb:v.ownBlock=some g:=by rw [hv];rfl
  exact ⟨hl,.inr ⟨g,cap,cur,hv,hbg,(hg.block g (hlt g hb).2 (fun e=>hn g hb e.symm)).trans hh,r⟩⟩
theorem KAt.app4 {w w':World} {B:Nat} {v4 v6 v4':Value} {d:KD} (h:KAt w B v4 v6 d) (hg:w.grownBy w' v4.ownBlock) (ha:v4'.ownBlock=v4.ownBlock∨v4'.ownBlock=some w.heap.size) {i:Int} (hr:w'.ownsRow B 3 1 v4' (d.kept.length + 1) (intCells (d.kept ++ [i]))) :
  KAt w' B v4' v6 ⟨d.kept ++ [i],d.L,d.TA,d.tn,d.tc,d.ts,d.SA,d.sn,d.sc,d.sv⟩:=by
 obtain ⟨h1,h2,h3⟩:=h.sm (Sm.grown hg h.off4)
 refine ⟨by show w'.ownsRow B 3 1 v4' (d.kept ++ [i]).length _;rw [List.length_append];exact hr,row_other h.row6 hg fun g e e2=>h.ne g e2 e,fun g e e2=>?_,h1,h.tcap,h2,h3,h.few,off_grow h.off4 (fun g hu=>h.lt hu) ha,h.off6⟩
 rcases ha with e3 | e3
 ·exact h.ne g (e3.symm.trans e) e2
 ·rw [e3] at e
  injection e with e
  have:=(own_in h.row6 g e2).2
  omega
theorem KAt.app6 {w w':World} {B:Nat} {v4 v6 v6':Value} {d:KD} (h:KAt w B v4 v6 d) (hg:w.grownBy w' v6.ownBlock) (ha:v6'.ownBlock=v6.ownBlock∨v6'.ownBlock=some w.heap.size) {y:RV} (hy:Blks w y.A y.n y.bl) (hf:FewB y.n y.bl∧y.n≤y.c)
  (ho4:∀ g,UB y.A y.n y.bl g→v4.ownBlock ≠ some g) (ho6:∀ g,UB y.A y.n y.bl g→v6.ownBlock ≠ some g) (hr:w'.ownsRow B 28 1 v6' (d.L.length + 1) ((d.L ++ [y]).flatMap RV.cells)) :
  KAt w' B v4 v6' ⟨d.kept,d.L ++ [y],d.TA,d.tn,d.tc,d.ts,d.SA,d.sn,d.sc,d.sv⟩:=by
 obtain ⟨h1,h2,h3⟩:=h.sm (Sm.grown hg h.off6)
 have hu:∀ g,KD.uses ⟨d.kept,d.L ++ [y],d.TA,d.tn,d.tc,d.ts,d.SA,d.sn,d.sc,d.sv⟩ g→d.uses g∨UB y.A y.n y.bl g:=by
  rintro g (e | e | ⟨z,hz,e⟩)
  ·exact .inl (.inl e)
  ·exact .inl (.inr (.inl e))
  ·rcases List.mem_append.1 hz with hz | hz
   ·exact .inl (.inr (.inr ⟨z,hz,e⟩))
   ·rw [List.mem_singleton.1 hz] at e;exact .inr e
 have g4:∀ g,KD.uses ⟨d.kept,d.L ++ [y],d.TA,d.tn,d.tc,d.ts,d.SA,d.sn,d.sc,d.sv⟩ g→v4.ownBlock ≠ some g:=fun g hg=>(hu g hg).elim (h.off4 g) (ho4 g)
 have g6:∀ g,KD.uses ⟨d.kept,d.L ++ [y],d.TA,d.tn,d.tc,d.ts,d.SA,d.sn,d.sc,d.sv⟩ g→v6.ownBlock ≠ some g:=fun g hg=>(hu g hg).elim (h.off6 g) (ho6 g)
 refine ⟨row_other h.row4 hg fun g e e2=>h.ne g e e2,by show w'.ownsRow B 28 1 v6' (d.L ++ [y]).length _;rw [List.length_append];exact hr,fun g e e2=>?_,h1,h.tcap,h2,fun z hz=>?_,fun z hz=>?_,g4,off_grow g6 (fun g hg=>(hu g hg).elim (fun e=>h.lt e) hy.ft_lt) ha⟩
 ·rcases ha with e3 | e3
  ·exact h.ne g e (e3.symm.trans e2)
  ·rw [e3] at e2
   injection e2 with e2
   have:=(own_in h.row4 g e).2
   omega
 ·rcases List.mem_append.1 hz with hz | hz
  ·exact h3 z hz
  ·rw [List.mem_singleton.1 hz];exact hy.sm (Sm.grown hg ho6)
 ·rcases List.mem_append.1 hz with hz | hz
  ·exact h.few z hz
  ·rw [List.mem_singleton.1 hz];exact hf
theorem KAt.turn {w:World} {B:Nat} {v4 v6:Value} {d:KD} (h:KAt w B v4 v6 d) {TA SA:Option Addr} {tn tc sn sc:Nat} {ts:List TV} {sv:List Q} (hT:Tours w TA tn ts) (hc:tn≤tc∧∀ y ∈ ts,y.n≤y.c) (hS:Reqs w SA sn sv)
  (h4T:∀ g,UT TA tn ts g→v4.ownBlock ≠ some g∧v6.ownBlock ≠ some g) (h4S:∀ g,UQ SA sn sv g→v4.ownBlock ≠ some g∧v6.ownBlock ≠ some g):KAt w B v4 v6 ⟨d.kept,d.L,TA,tn,tc,ts,SA,sn,sc,sv⟩ :=
 ⟨h.row4,h.row6,h.ne,hT,hc,hS,h.reasons,h.few,fun g e=>by
  rcases e with e | e | e
  ·exact (h4T g e).1
  ·exact (h4S g e).1
  ·exact h.off4 g (.inr (.inr e)),fun g e=>by
  rcases e with e | e | e
  ·exact (h4T g e).2
  ·exact (h4S g e).2
  ·exact h.off6 g (.inr (.inr e))⟩
theorem KAt.new {w w1:World} {B:Nat} {v4 v6:Value} {d:KD} (h:KAt w B v4 v6 d) (hb:Below w.heap.size w w1) {g:Nat} (hg:w1.heap.size≤g∨g < B):v4.ownBlock ≠ some g∧v6.ownBlock ≠ some g:=by
 have hz:=hb.size
 refine ⟨fun e=>?_,fun e=>?_⟩
 ·have:=own_in h.row4 g e;omega
 ·have:=own_in h.row6 g e;omega
theorem nt_new {w:World} {A:Option Addr} {n:Nat} {ts:List TV} (hA:∀ ad,A=some ad→w.heap.size≤ad.block) (h:NT w ts):∀ g,UT A n ts g→w.heap.size≤g:=by
 rintro g (⟨-,ad,e,rfl⟩ | ⟨y,hy,⟨h0,ad,e,rfl⟩ | ⟨h0,ad,e,rfl⟩⟩)
 ·exact hA ad e
 ·exact (h y hy).1 h0 ad e
 ·exact (h y hy).2.1 h0 ad e
theorem nb_new {w:World} {A:Option Addr} {n:Nat} {bl:List BV} (hA:∀ ad,A=some ad→w.heap.size≤ad.block) (h:NB w bl):∀ g,UB A n bl g→w.heap.size≤g:=by
 rintro g (⟨-,ad,e,rfl⟩ | ⟨y,hy,⟨h0,ad,e,rfl⟩ | ⟨h0,ad,e,rfl⟩⟩)
 ·exact hA ad e
 ·exact (h y hy).1 h0 ad e
 ·exact (h y hy).2 h0 ad e
def RetKeep (w w':World) (k:K.Kp) (er:Int) (e:Ending):Prop :=
 (∃ KA kn kc RA rn rc,∃ d:KD,e=.returned (.tuple #[.slice KA kn kc,.slice d.TA d.tn d.tc,.slice RA rn rc,.int .i64 er])∧Ints w' KA kn k.kept∧Tours w' d.TA d.tn d.ts∧(d.tn≤d.tc∧∀ y ∈ d.ts,y.n≤y.c)∧FewT d.tn d.ts∧d.ts.map TV.pr=k.tours∧Rsn w' RA rn d.L∧FewR rn d.L∧d.L.map RV.pr=k.reasons)∧Below w.heap.size w w'
theorem retKeep_nil {w w':World} {er:Int} (hb:Below w.heap.size w w'):RetKeep w w' K.Kp.zero er (.returned (.tuple #[.slice none 0 0,.slice none 0 0,.slice none 0 0,.int .i64 er])) :=
 ⟨⟨none,0,0,none,0,0,⟨[],[],none,0,0,[],none,0,0,[]⟩,rfl,⟨rfl,rfl,fun h=>absurd h (by decide)⟩,⟨⟨rfl,rfl,fun h=>absurd h (by decide)⟩,fun y h=>(by cases h)⟩,⟨Nat.le_refl _,fun y h=>(by cases h)⟩,⟨by decide,fun y h=>(by cases h)⟩,rfl,⟨⟨rfl,rfl,fun h=>absurd h (by decide)⟩,fun y h=>(by cases h)⟩,⟨by decide,fun y h=>(by cases h)⟩,rfl⟩,hb⟩
theorem Tryz.underlying65k:Tryz.prog.underlying 65=some (.slice 28):=by kernel_rfl
theorem Tryz.info28k:(Tryz.prog.info? 28).map (fun i=>(i.zero,i.size,i.bytes))=some (some (.slice none 0 0),1,24):=by kernel_rfl
theorem rest_small {w:World} {x:Cs} (hx:CsAt w x) (hsn:x.sn≤1000000) (hsr:∀ s ∈ x.ss,s.n≤1000000) {w':World} {A:Option Addr} {n:Nat} {L R:List S} (hR:R.Sublist x.ss) (hL:Shifts w' A n L) (hb:L.map S.bare=R.map S.bare) :
  n≤1000000∧∀ s ∈ L,s.n≤1000000:=by
 have h1:L.length=R.length:=by rw [←List.length_map (f:=S.bare),hb,List.length_map]
 have h2:=hR.length_le
 have h3:=hx.shifts.1.1
 have h4:=hL.1.1
 refine ⟨by omega,fun s hs=>?_⟩
 have h5:s.bare ∈ R.map S.bare:=by rw [←hb];exact List.mem_map_of_mem hs
 obtain ⟨s',hs',e⟩:=List.mem_map.1 h5
 have h6:=hsr s' (hR.subset hs')
 have h7:=(hx.shifts.2 s' (hR.subset hs')).1
 have h8:=(hL.2 s hs).1
 have h9:s'.bare.l=s.bare.l:=by rw [e]
 change s'.l=s.l at h9
 rw [h8,←h9,←h7]
 exact h6
theorem rest34_sub {nd:Int} {l:List Ro} {ss:List S} {r:List Q} {lost:List Int}:(K.rest34 nd l ss r lost).Sublist ss:=by
 unfold K.rest34
 split
 ·exact K.restGo_sub ss 0
 ·exact List.nil_sublist _
structure KSays (nd:Int) (l:List Ro) (R:List S) (r:List Q) (i:Nat) (d:KD):Prop where
 kept:d.kept=(K.kpAt nd l R r i).kept
 sv:d.sv=(K.kpAt nd l R r i).served
 ts:d.ts.map TV.pr=(K.kpAt nd l R r i).tours
 rs:d.L.map RV.pr=(K.kpAt nd l R r i).reasons
 kl:d.kept.length≤i
 ll:d.L.length≤i
 sl:d.sn≤i
 inr:∀ q ∈ d.sv,q ∈ r
theorem KSays.zero (nd:Int) (l:List Ro) (R:List S) (r:List Q):KSays nd l R r 0 ⟨[],[],none,0,0,[],none,0,0,[]⟩ :=
 ⟨rfl,rfl,rfl,rfl,Nat.le_refl _,Nat.le_refl _,Nat.le_refl _,fun q h=>(by cases h)⟩
theorem KSays.yes {nd:Int} {l:List Ro} {R:List S} {r:List Q} {i:Nat} {d:KD} (h:KSays nd l R r i d) {q:Q} (hq:r[i]? = some q) (hf:(K.plan nd l R (d.sv ++ [q])).2=0) {TA SA:Option Addr} {tn tc sc:Nat} {ts:List TV} (hts:ts.map TV.pr=(K.plan nd l R (d.sv ++ [q])).1.map fun t=>((t.1:Int),t.2)) :
  KSays nd l R r (i + 1) ⟨d.kept ++ [(i:Int)],d.L,TA,tn,tc,ts,SA,d.sn + 1,sc,d.sv ++ [q]⟩:=by
 have e:=K.kpAt_succ (nd:=nd) (l:=l) (rest:=R) hq
 have hy:K.keepYes nd l R (K.kpAt nd l R r i) q=true:=by unfold K.keepYes;rw [←h.sv,hf];rfl
 unfold K.keepStep at e
 rw [if_pos hy] at e
 refine ⟨?_,?_,?_,?_,?_,?_,?_,?_⟩
 ·rw [e];show d.kept ++ _=_;rw [h.kept]
 ·rw [e];show d.sv ++ _=_;rw [h.sv]
 ·rw [e];show ts.map TV.pr=_;rw [hts,h.sv]
 ·rw [e];exact h.rs
 ·show (d.kept ++ [(i:Int)]).length≤i + 1
  have:=h.kl
  rw [List.length_append,List.length_singleton]
  omega
 ·have:=h.ll
  show d.L.length≤i + 1
  omega
 ·have:=h.sl
  show d.sn + 1≤i + 1
  omega
 ·intro p hp
  rcases List.mem_append.1 hp with hp | hp
  ·exact h.inr p hp
  ·rw [List.mem_singleton.1 hp];exact List.mem_of_getElem? hq
theorem KSays.no {nd:Int} {l:List Ro} {R:List S} {r:List Q} {i:Nat} {d:KD} (h:KSays nd l R r i d) {q:Q} (hq:r[i]? = some q) (hf:(K.plan nd l R (d.sv ++ [q])).2 ≠ 0) {y:RV} (hy:y.bl.map BV.pr=(K.refute nd l R (d.sv ++ [q])).1.map fun b=>((b.1:Int),b.2)) :
  KSays nd l R r (i + 1) ⟨d.kept,d.L ++ [y],d.TA,d.tn,d.tc,d.ts,d.SA,d.sn,d.sc,d.sv⟩:=by
 have e:=K.kpAt_succ (nd:=nd) (l:=l) (rest:=R) hq
 have hn:¬ K.keepYes nd l R (K.kpAt nd l R r i) q=true:=by unfold K.keepYes;rw [←h.sv,beq_iff_eq];exact hf
 unfold K.keepStep at e
 rw [if_neg hn] at e
 refine ⟨?_,?_,?_,?_,?_,?_,?_,h.inr⟩
 ·rw [e];exact h.kept
 ·rw [e];exact h.sv
 ·rw [e];exact h.ts
 ·rw [e]
  show (d.L ++ [y]).map RV.pr=_
  rw [List.map_append,h.rs,←h.sv,←hy]
  rfl
 ·have:=h.kl
  show d.kept.length≤i + 1
  omega
 ·show (d.L ++ [y]).length≤i + 1
  have:=h.ll
  rw [List.length_append,List.length_singleton]
  omega
 ·have:=h.sl
  show d.sn≤i + 1
  omega
set_option maxRecDepth 100000 in
set_option maxHeartbeats 16000000 in
theorem keep47_any (x:Cs) (LA:Option Addr) (ln lc:Nat) (lost:List Int) (w:World) (hx:CsAt w x) (hL:Ints w LA ln lost) (hln:ln≤1000000000) (hsn:x.sn≤1000000) (hsr:∀ s ∈ x.ss,s.n≤1000000) :
  Calls Tryz.prog 47 #[.agg #[.int .i64 x.nd,.slice x.A x.n x.c,.slice x.SA x.sn x.sc,.slice x.B x.m x.d],.slice LA ln lc] w fun e w'=>RetKeep w w' (K.keep34 x.nd x.l x.ss x.r lost).1 (K.keep34 x.nd x.l x.ss x.r lost).2 e:=by
 obtain ⟨w1,hw1⟩:∃ w1:World,w1=w.alloc (.cells #[.int .i64 x.nd,.slice x.A x.n x.c,.slice x.SA x.sn x.sc,.slice x.B x.m x.d] 44):=⟨_,rfl⟩
 obtain ⟨g,hg⟩:∃ g,g=w.heap.size:=⟨_,rfl⟩
 have b1:Below w.heap.size w w1:=by rw [hw1];exact (Below.refl _ _).alloc (Nat.le_refl _) _
 have hN1:BkBlk w1 g x:=by rw [hw1,hg];exact BkBlk.new _ _
 have p0:=blk_cell hN1 0 _ rfl
 have p1:=blk_cell hN1 1 _ rfl
 have p2:=blk_cell hN1 2 _ rfl
 have p3:=blk_cell hN1 3 _ rfl
 have CR:=rest45_any x LA ln lc lost w1 (hx.below b1) (hL.below b1) hln hsn hsr
 obtain ⟨KK,hKK⟩:∃ KK,KK=K.keep34 x.nd x.l x.ss x.r lost:=⟨_,rfl⟩
 rw [←hKK]
 have HKK:=Lib.hid hKK
 clear hKK
 go_enter Tryz.func47,Tryz.ntmps47
 go_upto_region 1 with fail
 rw [←hw1,←hg]
 clear hw1 hg
 go_wp2_with fail
 refine CR.mono ?_
 obtain ⟨er,her⟩:∃ er,er=K.restE x.nd x.l x.ss x.r lost:=⟨_,rfl⟩
 rw [←her]
 have HER:=Lib.hid her
 clear her
 rintro e w2 ⟨⟨RA,rn,rc,RL,rfl,hRS,hRB⟩,b2⟩
 have hN2:=hN1.below b2
 have hb2:=bel b1 b2
 clear CR p0 p1 p2 p3 b1 b2 hN1
 by_cases hz:er=0
 rotate_left
 ·have HX:=Lib.hid (show KK=(K.Kp.zero,er) by rw [HKK.out,HER.out];unfold K.keep34;rw [if_neg (by rw [←HER.out];exact hz)])
  have hd:(er != 0)=true:=by simp [bne,hz]
  go_wp2_with fail
  refine bodyPost_ret (results_tmp4 rfl _ _ _) rfl ?_
  rw [HX.out]
  exact retKeep_nil hb2
 subst hz
 have hE0:K.restE x.nd x.l x.ss x.r lost=0:=HER.out.symm
 have HP:=Lib.hid (K.restE_0 hE0).2
 have hm6:x.m≤6:=by rw [hx.reqs.1];exact (K.pcheck_ok HP.out).2.2.2.2
 obtain ⟨R,hR⟩:∃ R,R=K.rest34 x.nd x.l x.ss x.r lost:=⟨_,rfl⟩
 rw [←hR] at hRB
 have HR:=Lib.hid (show R=K.restGo lost 0 x.ss by rw [hR];unfold K.rest34;rw [if_pos hE0])
 obtain ⟨hrn,hrs⟩:=rest_small hx hsn hsr (by rw [hR];exact rest34_sub) hRS hRB
 have HKR:=Lib.hid (show KK=(K.kpAt x.nd x.l R x.r x.r.length,0) by rw [HKK.out];unfold K.keep34;rw [if_pos hE0,HR.out,K.kpAt_len])
 have HRB:=Lib.hid hRB
 have HRN:=Lib.hid hx.reqs.1
 clear HKK HER hE0 hR hRB
 obtain ⟨B,hB⟩:∃ B,B=w2.heap.size:=⟨_,rfl⟩
 have hBz:w.heap.size≤B:=by rw [hB];exact hb2.size
 have hQ2:=hx.reqs.below hb2
 have p0:=blk_cell hN2 0 _ rfl
 have p1:=blk_cell hN2 1 _ rfl
 have p2:=blk_cell hN2 2 _ rfl
 have p3:=blk_cell hN2 3 _ rfl
 go_wp2_with fail
 clear p0 p1 p2 p3
 go_loopw [4,5,6,9,29] (fun v4 v5 v6 v9 v29 wr=>∃ (i:Nat) (d:KD),v29=.int .i64 i∧i≤x.m∧v5=.slice d.TA d.tn d.tc∧v9=.slice d.SA d.sn d.sc∧KAt wr B v4 v6 d∧KSays x.nd x.l R x.r i d∧Below w2.heap.size w2 wr) (fun _ _ _ _ v29 _=>x.m - (intOf v29).toNat)
 case atStart=>exact ⟨0,_,rfl,Nat.zero_le _,rfl,rfl,KAt.zero _ _,KSays.zero _ _ _ _,Below.refl _ _⟩
 case round =>
  obtain ⟨i,d,rfl,hi,rfl,rfl,hK,hS,hbr⟩:=hrel
  have hbw:=bel hb2 hbr
  by_cases hlt:i < x.m
  ·obtain ⟨ad,q,hA,hq,hW,c0,c1,c2,c3,c4,c5,c6⟩:=(hx.reqs.below hbw).at_ hlt
   have HQ:=Lib.hid hq
   have k0:(0:Int)≤(i:Int):=by omega
   have k1:(i:Int) < (x.m:Int):=by omega
   have hsl:=hS.sl
   obtain ⟨gs,hgs⟩:∃ gs,gs=wr.heap.size:=⟨_,rfl⟩
   obtain ⟨w4,hw4⟩:∃ w4:World,w4=wr.alloc (.cells #[.int .i64 q.node,.int .i64 q.room,.int .i64 q.kilos,.int .i64 q.service,.int .i64 q.frm,.int .i64 q.by_,.slice q.A q.n q.c] 47):=⟨_,rfl⟩
   have b4:Below wr.heap.size wr w4:=by rw [hw4];exact (Below.refl _ _).alloc (Nat.le_refl _) _
   have hB4:QBlk w4 gs q:=by rw [hw4,hgs];exact QBlk.new _ _
   have hK4:=hK.below b4
   have CW:=with112_any d.SA d.sn d.sc d.sv q w4 (by have h:=hK4.served.2.1;rw [reqCells_flat] at h;exact h) (by omega)
   rw [hA]
   have HA:=Lib.hid hA
   clear hA hq
   go_upto_region 8 with fail
   rw [←hw4,←hgs]
   clear hw4 hgs c0 c1 c2 c3 c4 c5 c6
   obtain ⟨s0,s1,s2,s3,s4,s5,s6⟩:=hB4.cells
   go_wp2_with fail
   refine CW.mono ?_
   rintro e w5 ⟨⟨v,rfl,hv⟩,b5⟩
   obtain ⟨SB,cB,rfl,hRv,hFv⟩:=own_form hv
   have b45:=bel b4 b5
   have hK5:=hK.below b45
   have hN5:=hN2.below (bel hbr b45)
   have hS5:Reqs w5 SB (d.sn + 1) (d.sv ++ [q]):=⟨by rw [List.length_append,←hK.served.1];rfl,by rw [reqCells_flat];exact hRv,fun p hp=>by
    rcases List.mem_append.1 hp with hp | hp
    ·exact (hK5.served).2.2 p hp
    ·rw [List.mem_singleton.1 hp];exact hW.below b45⟩
   have hUS:∀ g,UQ SB (d.sn + 1) (d.sv ++ [q]) g→w4.heap.size≤g∨g < B:=by
    rintro g (⟨-,ad,e,rfl⟩ | ⟨p,hp,e⟩)
    ·exact .inl (hFv _ (by rw [e];rfl)).1
    ·refine .inr ?_
     rw [hB]
     have hpr:p ∈ x.r:=by
      rcases List.mem_append.1 hp with hp | hp
      ·exact hS.inr p hp
      ·rw [List.mem_singleton.1 hp];exact List.mem_of_getElem? HQ.out
     exact hQ2.ft_lt (.inr ⟨p,hpr,e⟩)
   have hCs:CsAt w5 ⟨x.nd,x.A,x.n,x.c,x.l,RA,rn,rc,RL,SB,d.sn + 1,cB,d.sv ++ [q]⟩ :=
    ⟨Lst.below hx.net (bel hbw b45),hRS.below (bel hbr b45),hS5,hx.b1,fun s hs=>by have:=hrs s hs;omega,by show rn≤_;omega,by show d.sn + 1≤_;omega,fun p hp=>by
     rcases List.mem_append.1 hp with hp | hp
     ·exact hx.b5 p (hS.inr p hp)
     ·rw [List.mem_singleton.1 hp];exact hx.b5 q (List.mem_of_getElem? HQ.out)⟩
   have CP:=plan32X ⟨x.nd,x.A,x.n,x.c,x.l,RA,rn,rc,RL,SB,d.sn + 1,cB,d.sv ++ [q]⟩ w5 hCs
   rw [show K.plan (Cs.nd ⟨x.nd,x.A,x.n,x.c,x.l,RA,rn,rc,RL,SB,d.sn + 1,cB,d.sv ++ [q]⟩) (Cs.l ⟨x.nd,x.A,x.n,x.c,x.l,RA,rn,rc,RL,SB,d.sn + 1,cB,d.sv ++ [q]⟩) (Cs.ss ⟨x.nd,x.A,x.n,x.c,x.l,RA,rn,rc,RL,SB,d.sn + 1,cB,d.sv ++ [q]⟩) (Cs.r ⟨x.nd,x.A,x.n,x.c,x.l,RA,rn,rc,RL,SB,d.sn + 1,cB,d.sv ++ [q]⟩)=K.plan x.nd x.l R (d.sv ++ [q]) from K.plan_same rfl HRB.out] at CP
   obtain ⟨PP,hPP⟩:∃ PP,PP=K.plan x.nd x.l R (d.sv ++ [q]):=⟨_,rfl⟩
   rw [←hPP] at CP
   have HPP:=Lib.hid hPP
   clear hPP CW s0 s1 s2 s3 s4 s5 s6 hv hRv hFv hB4 hK4
   have p0:=blk_cell hN5 0 _ rfl
   have p1:=blk_cell hN5 1 _ rfl
   go_wp2_with fail
   refine CP.mono ?_
   rintro e w6 ⟨⟨TA,tn,tc,ts,rfl,hT6,htc,hts,hTA,hNT⟩,b6⟩
   have HTS:=Lib.hid hts
   have hUT:=nt_new (n:=tn) hTA hNT
   have htc2:tn≤tc∧∀ y ∈ ts,y.n≤y.c:=⟨htc,fun y hy=>(hNT y hy).2.2.1⟩
   have b46:=bel b45 b6
   have hK6:=hK5.below b6
   have hN6:=hN5.below b6
   have hCs6:=hCs.below b6
   have hS6:=hS5.below b6
   obtain ⟨f,hf⟩:∃ f,f=PP.2:=⟨_,rfl⟩
   rw [←hf]
   have HF:=Lib.hid hf
   clear hf CP p0 p1 hts hTA hNT hN5 hCs hS5 hK5
   by_cases hf0:f=0
   ·subst hf0
    have HSY:=Lib.hid (hS.yes (TA:=TA) (SA:=SB) (tn:=tn) (tc:=tc) (sc:=cB) HQ.out (by rw [←HPP.out];exact HF.out.symm) (by rw [HTS.out,HPP.out]))
    obtain ⟨w8,hw8⟩:∃ w8:World,w8=w6.alloc (.cells #[.int .i64 i] 3):=⟨_,rfl⟩
    obtain ⟨g8,hg8⟩:∃ g,g=w6.heap.size:=⟨_,rfl⟩
    have b8:Below w6.heap.size w6 w8:=by rw [hw8];exact (Below.refl _ _).alloc (Nat.le_refl _) _
    have hL8:w8.heap[g8]? = some (.cells #[.int .i64 i] 3 (0,0)):=by rw [hw8,hg8];exact heap_alloc_new _ _
    have hK8:=(hK6.turn (sc:=cB) hT6 htc2 hS6 (fun g e=>hK.new b45 (.inl (hUT g e))) (fun g e=>hK.new b4 (hUS g e))).below b8
    have hb8:=bel hbr (bel b46 b8)
    have hz8:B≤w8.heap.size:=by rw [hB];exact hb8.size
    have hkl:=hS.kl
    go_wp2_with (first
     | (at_builtin;rw [←hw8,←hg8];refine app_int rfl _ _ rfl B _ d.kept.length d.kept rfl hK8.row4 g8 i rfl hL8 (by omega) hz8 ?_;intro v' w9 hr9 hg9 ha9)
     | fail)
    have hK9:=hK8.app4 hg9 ha9 hr9
    have hb9:Below w2.heap.size w2 w9:=below_own2 hb8 hg9 (fun g e=>by rw [←hB];exact (own_in hK8.row4 g e).1)
    go_roundw
    case rel=>(go_light;exact ⟨i + 1,⟨d.kept ++ [(i:Int)],d.L,TA,tn,tc,ts,SB,d.sn + 1,cB,d.sv ++ [q]⟩,by go_num,hlt,rfl,rfl,hK9,HSY.out,hb9⟩)
    case measure=>(go_light;simp [intOf];omega)
   ·have HNF:=Lib.hid (show (K.plan x.nd x.l R (d.sv ++ [q])).2 ≠ 0 by rw [←HPP.out,←HF.out];exact hf0)
    have hd:(f == 0)=false:=by simp [hf0]
    have hd2:decide (f=0)=false:=by simp [hf0]
    have CF:=refute32X ⟨x.nd,x.A,x.n,x.c,x.l,RA,rn,rc,RL,SB,d.sn + 1,cB,d.sv ++ [q]⟩ w6 hCs6
    rw [show K.refute (Cs.nd ⟨x.nd,x.A,x.n,x.c,x.l,RA,rn,rc,RL,SB,d.sn + 1,cB,d.sv ++ [q]⟩) (Cs.l ⟨x.nd,x.A,x.n,x.c,x.l,RA,rn,rc,RL,SB,d.sn + 1,cB,d.sv ++ [q]⟩) (Cs.ss ⟨x.nd,x.A,x.n,x.c,x.l,RA,rn,rc,RL,SB,d.sn + 1,cB,d.sv ++ [q]⟩) (Cs.r ⟨x.nd,x.A,x.n,x.c,x.l,RA,rn,rc,RL,SB,d.sn + 1,cB,d.sv ++ [q]⟩)=K.refute x.nd x.l R (d.sv ++ [q]) from K.refute_same rfl HRB.out] at CF
    obtain ⟨PF,hPF⟩:∃ PF,PF=(K.refute x.nd x.l R (d.sv ++ [q])).1.map fun b=>((b.1:Int),b.2):=⟨_,rfl⟩
    obtain ⟨ef,hef⟩:∃ ef,ef=(K.refute x.nd x.l R (d.sv ++ [q])).2:=⟨_,rfl⟩
    rw [←hPF,←hef] at CF
    have HPF:=Lib.hid hPF
    have p0:=blk_cell hN6 0 _ rfl
    have p1:=blk_cell hN6 1 _ rfl
    clear hPF hef
    go_wp2_with fail
    refine CF.mono ?_
    rintro e w7 ⟨⟨FA,fn,fc,fl,rfl,hF7,hfc,hFB,hfp,hFA,hNB⟩,b7⟩
    have HSN:=Lib.hid (hS.no HQ.out HNF.out (y:=⟨FA,fn,fc,fl⟩) (by rw [←HPF.out];exact hfp))
    have hUB:=nb_new (n:=fn) hFA hNB
    have b67:=bel b46 b7
    obtain ⟨w8,hw8⟩:∃ w8:World,w8=w7.alloc (.cells #[.slice FA fn fc] 28):=⟨_,rfl⟩
    obtain ⟨g8,hg8⟩:∃ g,g=w7.heap.size:=⟨_,rfl⟩
    have b8:Below w7.heap.size w7 w8:=by rw [hw8];exact (Below.refl _ _).alloc (Nat.le_refl _) _
    have hL8:w8.heap[g8]? = some (.cells #[.slice FA fn fc] 28 (0,0)):=by rw [hw8,hg8];exact heap_alloc_new _ _
    have hK8:=(hK6.below b7).below b8
    have hF8:=hF7.below b8
    have hb8:=bel hbr (bel b67 b8)
    have hz8:B≤w8.heap.size:=by rw [hB];exact hb8.size
    have hll:=hS.ll
    obtain ⟨i0,hi0,hy0,hy1,hy2⟩:=info_parts Tryz.info28k
    clear p0 p1 CF
    go_wp2_with (first
     | (at_builtin;rw [←hw8,←hg8];refine wp_append_rd rfl _ _ 65 rfl B 28 i0 (.slice none 0 0) 1 24 Tryz.underlying65k hi0 hy0 hy1 hy2 rfl (by decide) _ d.L.length (d.L.flatMap RV.cells) rfl hK8.row6 (some ⟨g8,0,none⟩) 1 1 (RV.cells ⟨FA,fn,fc,fl⟩) rfl (Rd.of_block hL8 1 1 rfl) (by intro u hu;rw [show u=.slice FA fn fc from List.mem_singleton.1 hu];rfl) (by simp only [maxLen];omega) (by omega) hz8 ?_;intro v' w9 hr9 hg9 ha9)
     | fail)
    have hK9:=hK8.app6 (y:=⟨FA,fn,fc,fl⟩) hg9 ha9 hF8 ⟨hFB,hfc⟩ (fun g e=>(hK.new b46 (.inl (hUB g e))).1) (fun g e=>(hK.new b46 (.inl (hUB g e))).2) (by rw [List.flatMap_append,List.flatMap_singleton];exact hr9)
    have hb9:Below w2.heap.size w2 w9:=below_own2 hb8 hg9 (fun g e=>by rw [←hB];exact (own_in hK8.row6 g e).1)
    go_roundw
    case rel=>(go_light;exact ⟨i + 1,⟨d.kept,d.L ++ [⟨FA,fn,fc,fl⟩],d.TA,d.tn,d.tc,d.ts,d.SA,d.sn,d.sc,d.sv⟩,by go_num,hlt,rfl,rfl,hK9,HSN.out,hb9⟩)
    case measure=>(go_light;simp [intOf];omega)
  ·have hd:decide ((i:Int) < (x.m:Int))=false:=by simp;omega
   have hd2:decide (i < x.m)=false:=by simp;omega
   have HE:Hid (i=x.r.length):=Lib.hid (by rw [←HRN.out];omega)
   obtain ⟨KA,kc,rfl,hR4,-⟩:=own_form hK.row4
   obtain ⟨FA,fc,rfl,hR6,-⟩:=own_form hK.row6
   have hll:=hS.ll
   go_wp2_with fail
   refine bodyPost_ret (results_tmp4 rfl _ _ _) rfl ?_
   rw [HKR.out]
   have hP0:K.pcheck x.nd x.l R [] = 0:=K.pcheck_less HP.out (by rw [HR.out];exact K.restGo_sub _ _) (List.nil_sublist _)
   have hOk:=K.kpAt_ok hP0 (r:=x.r) (Nat.le_refl _)
   have hSl:KSays x.nd x.l R x.r x.r.length d:=by rw [←HE.out];exact hS
   have hfew:=K.checks_few hOk.tours
   rw [←hSl.ts] at hfew
   exact ⟨⟨KA,d.kept.length,kc,FA,d.L.length,fc,d,rfl,by rw [←hSl.kept];exact ⟨rfl,hR4⟩,hK.tours,hK.tcap,fewT_of hK.tours ⟨by have:=hfew.1;rwa [List.length_map] at this,hfew.2⟩,hSl.ts,⟨⟨rfl,hR6⟩,hK.reasons⟩,⟨by omega,hK.few⟩,hSl.rs⟩,hbw⟩
def K.exS34 (A:Option Addr) (c:Nat) (k:Int):S:=⟨1,0,0,60,0,A,1,c,[k]⟩
def IsEx34 (x:Cs):Prop:=∃ A c A1 c1 A2 c2 SA sc B d,x=⟨2,A,2,c,K.exL32,SA,2,sc,[K.exS34 A1 c1 5,K.exS34 A2 c2 2],B,3,d,[K.exQ32 4,K.exQ32 2,K.exQ32 1]⟩
structure E34 (w W0 wr:World) (k:Nat) (v:Value):Prop where
 row:wr.ownsRow W0.heap.size 47 7 v k (((([4,2,1]:List Int).take k).map K.exQ32).flatMap Q.cells)
 box:wr.heap[w.heap.size + 1 + 1]? = some (.cells #[.int .i64 2,.slice (some ⟨w.heap.size + 1,0,none⟩) 2 2,.slice (some ⟨w.heap.size + 1 + 1 + 1 + 1 + 1,0,none⟩) 2 2,v] 44 (0,0))
 keep:∀ g,g < W0.heap.size→g ≠ w.heap.size + 1 + 1→wr.heap[g]? = W0.heap[g]?
 size:W0.heap.size≤wr.heap.size
 bw:Below w.heap.size w wr
theorem E34.next {w W0 wr w4:World} {k g4 cap4:Nat} {v:Value} {o:Obj} {z:Int} (h:E34 w W0 wr k v) (hz7:W0.heap.size=w.heap.size + 7) (hg:(wr.alloc o).drew.grownBy w4 v.ownBlock)
  (ho:w4.ownsRow W0.heap.size 47 7 (.slice (some ⟨g4,0,none⟩) (k + 1) cap4) (k + 1) (((([4,2,1]:List Int).take k).map K.exQ32).flatMap Q.cells ++ (K.exQ32 z).cells)) (hr:(([4,2,1]:List Int).take (k + 1)).map K.exQ32=(([4,2,1]:List Int).take k).map K.exQ32 ++ [K.exQ32 z]) :
  E34 w W0 (w4.setCell ⟨w.heap.size + 1 + 1,3,none⟩ (.slice (some ⟨g4,0,none⟩) (k + 1) cap4)) (k + 1) (.slice (some ⟨g4,0,none⟩) (k + 1) cap4):=by
 have hin:=own_in h.row
 have hin4:=own_in ho g4 rfl
 have hsz:=h.size
 have hw1:Below wr.heap.size wr (wr.alloc o).drew:=((Below.refl _ _).alloc (Nat.le_refl _) o).drew
 have ne1:some (w.heap.size + 1 + 1) ≠ v.ownBlock:=fun e=>by have:=(hin _ e.symm).1;omega
 have hV4:=grow_blk hg (blk_below hw1 h.box) ne1
 refine ⟨?_,blk_set hV4 3 _,fun g hg1 hg2=>?_,?_,?_⟩
 ·rw [hr,List.flatMap_append,List.flatMap_singleton]
  exact ownsRow_setCell_other ho (a:=⟨w.heap.size + 1 + 1,3,none⟩) (show (some g4:Option Nat) ≠ some (w.heap.size + 1 + 1) from fun e=>by injection e with e;omega) _
 ·refine (Below.heap_setCell w4 _ _ g hg2).trans ((hg.block g ?_ fun e=>?_).trans ((hw1.block g (by omega)).trans (h.keep g hg1 hg2)))
  ·have:=hw1.size;omega
  ·have:=(hin g e.symm).1;omega
 ·rw [World.size_setCell]
  have:=hw1.size
  have:=hg.size
  omega
 ·exact ((bel h.bw hw1).grown hg (Nat.le_trans h.bw.size hw1.size) (fun g e=>by have:=(hin g e).1;omega)).setCell (show w.heap.size≤w.heap.size + 1 + 1 by omega) _
set_option maxRecDepth 100000 in
set_option maxHeartbeats 8000000 in
theorem example105_any (w:World):Calls Tryz.prog 105 #[] w fun e w'=>(∃ x,IsEx34 x∧CsAt w' x∧e=.returned (.agg #[.int .i64 x.nd,.slice x.A x.n x.c,.slice x.SA x.sn x.sc,.slice x.B x.m x.d]))∧Below w.heap.size w w':=by
 go_enter Tryz.func105,Tryz.ntmps105
 go_wp2_with fail
 obtain ⟨l7,hl7⟩:∃ l7:List Obj,l7=[.cells #[.int .i64 0,.slice none 0 0,.slice none 0 0,.slice none 0 0] 44,.cells #[.int .i64 0,.int .i64 1,.int .i64 10,.int .i64 (-1),.int .i64 1,.int .i64 0,.int .i64 10,.int .i64 (-1)] 134,.cells #[.int .i64 2,.slice (some ⟨w.heap.size + 1,0,none⟩) 2 2,.slice (some ⟨w.heap.size + 1 + 1 + 1 + 1 + 1,0,none⟩) 2 2,.slice none 0 0] 44,.cells #[.int .i64 5] 3,.cells #[.int .i64 2] 3,.cells #[.int .i64 1,.int .i64 0,.int .i64 0,.int .i64 60,.int .i64 0,.slice (some ⟨w.heap.size + 1 + 1 + 1,0,none⟩) 1 1,.int .i64 1,.int .i64 0,.int .i64 0,.int .i64 60,.int .i64 0,.slice (some ⟨w.heap.size + 1 + 1 + 1 + 1,0,none⟩) 1 1] 63,.cells #[.int .i64 4,.int .i64 2,.int .i64 1] 3]:=⟨_,rfl⟩
 obtain ⟨W0,hW0⟩:∃ W0:World,W0=Als w l7:=⟨_,rfl⟩
 have hb:=Als.below l7 w
 have g:=Als.get l7 w
 have hz:=Als.size l7 w
 rw [←hW0] at hb g hz
 have e0:W0.heap[w.heap.size]? = some (.cells #[.int .i64 0,.slice none 0 0,.slice none 0 0,.slice none 0 0] 44 (0,0)):=g 0 _ (by rw [hl7];rfl)
 have e1:W0.heap[w.heap.size + 1]? = some (.cells #[.int .i64 0,.int .i64 1,.int .i64 10,.int .i64 (-1),.int .i64 1,.int .i64 0,.int .i64 10,.int .i64 (-1)] 134 (0,0)):=g 1 _ (by rw [hl7];rfl)
 have e2:W0.heap[w.heap.size + 1 + 1]? = some (.cells #[.int .i64 2,.slice (some ⟨w.heap.size + 1,0,none⟩) 2 2,.slice (some ⟨w.heap.size + 1 + 1 + 1 + 1 + 1,0,none⟩) 2 2,.slice none 0 0] 44 (0,0)):=g 2 _ (by rw [hl7];rfl)
 have e3:W0.heap[w.heap.size + 1 + 1 + 1]? = some (.cells #[.int .i64 5] 3 (0,0)):=g 3 _ (by rw [hl7];rfl)
 have e4:W0.heap[w.heap.size + 1 + 1 + 1 + 1]? = some (.cells #[.int .i64 2] 3 (0,0)):=g 4 _ (by rw [hl7];rfl)
 have e5:W0.heap[w.heap.size + 1 + 1 + 1 + 1 + 1]? = some (.cells #[.int .i64 1,.int .i64 0,.int .i64 0,.int .i64 60,.int .i64 0,.slice (some ⟨w.heap.size + 1 + 1 + 1,0,none⟩) 1 1,.int .i64 1,.int .i64 0,.int .i64 0,.int .i64 60,.int .i64 0,.slice (some ⟨w.heap.size + 1 + 1 + 1 + 1,0,none⟩) 1 1] 63 (0,0)):=g 5 _ (by rw [hl7];rfl)
 have e6:W0.heap[w.heap.size + 1 + 1 + 1 + 1 + 1 + 1]? = some (.cells #[.int .i64 4,.int .i64 2,.int .i64 1] 3 (0,0)):=g 6 _ (by rw [hl7];rfl)
 have hz7:W0.heap.size=w.heap.size + 7:=by rw [hz,hl7];rfl
 rw [hl7] at hW0
 simp only [Als] at hW0
 rw [←hW0]
 obtain ⟨adK,hadK⟩:∃ ad:Addr,ad=⟨w.heap.size + 1 + 1 + 1 + 1 + 1 + 1,0,none⟩:=⟨_,rfl⟩
 rw [←hadK]
 have hI0:Ints W0 (some adK) 3 [4,2,1]:=by
  rw [hadK]
  exact ⟨rfl,Rd.of_block (cs:=(intCells [4,2,1]).toArray) e6 1 3 rfl⟩
 have hkb:adK.block=w.heap.size + 1 + 1 + 1 + 1 + 1 + 1:=by rw [hadK]
 clear g hz hl7 hW0 hadK
 go_loopw [3] (fun v3 wr=>∃ (k:Nat) (v:Value),v3=.int .i64 k∧k≤3∧E34 w W0 wr k v) (fun v3 _=>3 - (intOf v3).toNat)
 case atStart=>exact ⟨0,.slice none 0 0,rfl,by omega,⟨World.ownsRow_nil _ _ _ _,e2,fun _ _ _=>rfl,Nat.le_refl _,hb⟩⟩
 case round =>
  obtain ⟨k,v,rfl,hk,hE⟩:=hrel
  have hIr:Ints wr (some adK) 3 [4,2,1]:=⟨rfl,hI0.2.sm fun g hg _=>by
   obtain ⟨-,ad,e,rfl⟩:=hg
   injection e with e
   rw [←e]
   exact hE.keep _ (by omega) (by omega)⟩
  by_cases hlt:k < 3
  ·obtain ⟨ad,z,he,hx,c0⟩:=hIr.at_ hlt
   injection he with he
   subst he
   have HZ:=Lib.hid (show (([4,2,1]:List Int).take (k + 1)).map K.exQ32=(([4,2,1]:List Int).take k).map K.exQ32 ++ [K.exQ32 z] by rw [take_snoc hx,List.map_append,List.map_singleton])
   have hk0:(0:Int)≤(k:Int):=by omega
   have hk1:(k:Int) < 3:=by omega
   have hV:=hE.box
   have hown:=hE.row
   have hsz:=hE.size
   have v3:=blk_cell hV 3 _ rfl
   have vf:=blk_free hV
   have own1:(wr.alloc (.cells #[.int .i64 1,.int .i64 0,.int .i64 z,.int .i64 5,.int .i64 1,.int .i64 1,.slice none 0 0] 47)).drew.ownsRow W0.heap.size 47 7 v k (((([4,2,1]:List Int).take k).map K.exQ32).flatMap Q.cells):=hown.alloc _
   have hnw:=heap_alloc_new wr (.cells #[.int .i64 1,.int .i64 0,.int .i64 z,.int .i64 5,.int .i64 1,.int .i64 1,.slice none 0 0] 47)
   have new1:∀ (j:Nat) (u:Value),((K.exQ32 z).cells)[j]? = some u→(wr.alloc (.cells #[.int .i64 1,.int .i64 0,.int .i64 z,.int .i64 5,.int .i64 1,.int .i64 1,.slice none 0 0] 47)).drew.cell? ((⟨wr.heap.size,0,none⟩:Addr).add j)=some u:=fun j u hu=>by
    rw [add_zero_block]
    exact blk_cell (w:=(wr.alloc (.cells #[.int .i64 1,.int .i64 0,.int .i64 z,.int .i64 5,.int .i64 1,.int .i64 1,.slice none 0 0] 47)).drew) hnw j u (by simpa [K.exQ32,Q.cells] using hu)
   have one1:=req_one (K.exQ32 z)
   have ne1:some (w.heap.size + 1 + 1) ≠ v.ownBlock:=fun e=>by have:=(hown.lt _ e.symm).1;omega
   have alc1:(wr.alloc (.cells #[.int .i64 1,.int .i64 0,.int .i64 z,.int .i64 5,.int .i64 1,.int .i64 1,.slice none 0 0] 47)).drew.heap[w.heap.size + 1 + 1]? = some (.cells #[.int .i64 2,.slice (some ⟨w.heap.size + 1,0,none⟩) 2 2,.slice (some ⟨w.heap.size + 1 + 1 + 1 + 1 + 1,0,none⟩) 2 2,v] 44 (0,0)):=blk_alloc hV _
   have v3a:(wr.alloc (.cells #[.int .i64 1,.int .i64 0,.int .i64 z,.int .i64 5,.int .i64 1,.int .i64 1,.slice none 0 0] 47)).cell? ⟨w.heap.size + 1 + 1,3,none⟩=some v:=blk_cell (blk_alloc hV _) 3 _ rfl
   have le1:k + 1≤maxLen:=by simp only [maxLen];omega
   have le2:(k + 1) * 72≤140737488355328:=by omega
   have le3:W0.heap.size≤(wr.alloc (.cells #[.int .i64 1,.int .i64 0,.int .i64 z,.int .i64 5,.int .i64 1,.int .i64 1,.slice none 0 0] 47)).drew.heap.size:=by
    show _≤(wr.alloc _).heap.size
    rw [World.size_alloc];omega
   obtain ⟨i0,hi,hz0,hz1,hz2⟩:=info_parts clone120_info
   clear hx
   go_wp2_with fail
   go_region_law (apply step_append_lies (hgd:=rfl) (s:=.tmp 23) (x:=.tmp 29) (t:=26) (ho:=rfl) (base:=W0.heap.size) (e:=47) (i:=i0) (z:=(.agg #[.int .i64 0,.int .i64 0,.int .i64 0,.int .i64 0,.int .i64 0,.int .i64 0,.slice none 0 0])) (size:=7) (bytes:=72) (ht:=Tryz.underlying26) (hi:=hi) (hz:=hz0) (hsize:=hz1) (hby:=hz2) (hzs:=rfl) (hsz:=by decide) (v:=v) (n:=k) (xs:=((([4,2,1]:List Int).take k).map K.exQ32).flatMap Q.cells) (ad:=⟨wr.heap.size,0,none⟩) (m:=1) (c:=1) (news:=(K.exQ32 z).cells) (hm:=Nat.one_pos) (h63:=le1) (hbytes:=le2) (hs:=rfl) (hown:=own1) (hx:=rfl) (hl:=rfl) (hnews:=new1) (h1:=one1) (hbase:=le3) (hH:=rfl);intro g4 cap4 w4 hown4 hgrow4 hlies hlt4;have hV4:=grow_blk hgrow4 alc1 ne1;have vf4:=blk_free hV4;have v34:=blk_cell hV4 3 _ rfl)
   all_goals go_wp2_with fail
   all_goals exact ⟨⟨k + 1,_,by push_cast;rfl,by omega,hE.next hz7 hgrow4 hown4 HZ.out⟩,by simp [intOf];omega⟩
  ·have hk3:k=3:=by omega
   subst hk3
   have hr0:wr.heap[w.heap.size]? = some (.cells #[.int .i64 0,.slice none 0 0,.slice none 0 0,.slice none 0 0] 44 (0,0)):=(hE.keep _ (by omega) (by omega)).trans e0
   have hV:=hE.box
   obtain ⟨BA,bc,rfl,hRB,hFB⟩:=own_form hE.row
   have r0:=blk_cell hV 0 _ rfl
   have r1:=blk_cell hV 1 _ rfl
   have r2:=blk_cell hV 2 _ rfl
   have r3:=blk_cell hV 3 _ rfl
   have rf:=blk_free hr0
   have rf0:=rf 0
   have rf1:=rf 1
   have rf2:=rf 2
   have rf3:=rf 3
   have q0:=blk_cell hr0 0 _ rfl
   have q1:=blk_cell hr0 1 _ rfl
   have q2:=blk_cell hr0 2 _ rfl
   have q3:=blk_cell hr0 3 _ rfl
   go_wp2_with fail
   have hW4:=blk_set (blk_set (blk_set (blk_set hr0 0 (.int .i64 2)) 1 (.slice (some ⟨w.heap.size + 1,0,none⟩) 2 2)) 2 (.slice (some ⟨w.heap.size + 1 + 1 + 1 + 1 + 1,0,none⟩) 2 2)) 3 (.slice BA 3 bc)
   have hbz:Below w.heap.size w ((((wr.setCell ⟨w.heap.size,0,none⟩ (.int .i64 2)).setCell ⟨w.heap.size,1,none⟩ (.slice (some ⟨w.heap.size + 1,0,none⟩) 2 2)).setCell ⟨w.heap.size,2,none⟩ (.slice (some ⟨w.heap.size + 1 + 1 + 1 + 1 + 1,0,none⟩) 2 2)).setCell ⟨w.heap.size,3,none⟩ (.slice BA 3 bc)):=below_set4 hE.bw (Nat.le_refl _) _ _ _ _
   have hkp:∀ g,g ≠ w.heap.size→((((wr.setCell ⟨w.heap.size,0,none⟩ (.int .i64 2)).setCell ⟨w.heap.size,1,none⟩ (.slice (some ⟨w.heap.size + 1,0,none⟩) 2 2)).setCell ⟨w.heap.size,2,none⟩ (.slice (some ⟨w.heap.size + 1 + 1 + 1 + 1 + 1,0,none⟩) 2 2)).setCell ⟨w.heap.size,3,none⟩ (.slice BA 3 bc)).heap[g]? = wr.heap[g]?:=fun g hne =>
    (Below.heap_setCell _ _ _ g hne).trans ((Below.heap_setCell _ _ _ g hne).trans ((Below.heap_setCell _ _ _ g hne).trans (Below.heap_setCell _ _ _ g hne)))
   obtain ⟨W4,hW⟩:∃ W4:World,W4=(((wr.setCell ⟨w.heap.size,0,none⟩ (.int .i64 2)).setCell ⟨w.heap.size,1,none⟩ (.slice (some ⟨w.heap.size + 1,0,none⟩) 2 2)).setCell ⟨w.heap.size,2,none⟩ (.slice (some ⟨w.heap.size + 1 + 1 + 1 + 1 + 1,0,none⟩) 2 2)).setCell ⟨w.heap.size,3,none⟩ (.slice BA 3 bc):=⟨_,rfl⟩
   rw [←hW] at hW4 hbz hkp ⊢
   have x1:=(hkp (w.heap.size + 1) (by omega)).trans ((hE.keep _ (by omega) (by omega)).trans e1)
   have x3:=(hkp (w.heap.size + 1 + 1 + 1) (by omega)).trans ((hE.keep _ (by omega) (by omega)).trans e3)
   have x4:=(hkp (w.heap.size + 1 + 1 + 1 + 1) (by omega)).trans ((hE.keep _ (by omega) (by omega)).trans e4)
   have x5:=(hkp (w.heap.size + 1 + 1 + 1 + 1 + 1) (by omega)).trans ((hE.keep _ (by omega) (by omega)).trans e5)
   refine bodyPost_ret_by (v:=.agg #[.int .i64 2,.slice (some ⟨w.heap.size + 1,0,none⟩) 2 2,.slice (some ⟨w.heap.size + 1 + 1 + 1 + 1 + 1,0,none⟩) 2 2,.slice BA 3 bc]) (results_cell_row rfl _ W4 w.heap.size 44 _ (0,0) _ rfl hW4 Tryz.underlying44 rfl (by kernel_rfl)) rfl ?_
   refine ⟨⟨⟨2,some ⟨w.heap.size + 1,0,none⟩,2,2,K.exL32,some ⟨w.heap.size + 1 + 1 + 1 + 1 + 1,0,none⟩,2,2,[K.exS34 (some ⟨w.heap.size + 1 + 1 + 1,0,none⟩) 1 5,K.exS34 (some ⟨w.heap.size + 1 + 1 + 1 + 1,0,none⟩) 1 2],BA,3,bc,[K.exQ32 4,K.exQ32 2,K.exQ32 1]⟩,⟨_,_,_,_,_,_,_,_,_,_,rfl⟩,?_,rfl⟩,hbz⟩
   have hRq:Rd W4 7 BA 3 (([K.exQ32 4,K.exQ32 2,K.exQ32 1]).flatMap Q.cells):=hRB.sm fun g hg _=>by
    obtain ⟨-,ad,e,rfl⟩:=hg
    have:=(hFB ad.block (by rw [e];rfl)).1
    exact hkp _ (by omega)
   refine ⟨⟨rfl,Rd.of_block (cs:=(K.exL32.flatMap roadCells).toArray) x1 4 2 rfl⟩,⟨⟨rfl,Rd.of_block (cs:=([K.exS34 (some ⟨w.heap.size + 1 + 1 + 1,0,none⟩) 1 5,K.exS34 (some ⟨w.heap.size + 1 + 1 + 1 + 1,0,none⟩) 1 2].flatMap S.cells).toArray) x5 6 2 rfl⟩,fun s hs=>?_⟩,⟨rfl,by rw [reqCells_flat];exact hRq,fun q hq=>?_⟩,(by decide:(2:Nat)≤1000000000),fun s hs=>?_,(by decide:(2:Nat)≤1000000000),(by decide:(3:Nat)≤1000000000),fun q hq=>?_⟩
   ·rcases List.mem_cons.1 hs with rfl | hs
    ·exact ⟨rfl,Rd.of_block (cs:=(intCells [5]).toArray) x3 1 1 rfl⟩
    ·rw [List.mem_singleton.1 hs];exact ⟨rfl,Rd.of_block (cs:=(intCells [2]).toArray) x4 1 1 rfl⟩
   ·have h9:q.n=0∧q.l=[]:=by
     rcases List.mem_cons.1 hq with rfl | hq
     ·exact ⟨rfl,rfl⟩
     ·rcases List.mem_cons.1 hq with rfl | hq
      ·exact ⟨rfl,rfl⟩
      ·rw [List.mem_singleton.1 hq];exact ⟨rfl,rfl⟩
    rw [h9.1,h9.2]
    exact ⟨rfl,rfl,fun h=>absurd h (by decide)⟩
   ·rcases List.mem_cons.1 hs with rfl | hs
    ·exact (by decide:(1:Nat)≤1000000000)
    ·rw [List.mem_singleton.1 hs];exact (by decide:(1:Nat)≤1000000000)
   ·rcases List.mem_cons.1 hq with rfl | hq
    ·exact Nat.zero_le _
    ·rcases List.mem_cons.1 hq with rfl | hq
     ·exact Nat.zero_le _
     ·rw [List.mem_singleton.1 hq];exact Nat.zero_le _
namespace K
def ss34 (A1:Option Addr) (c1:Nat) (A2:Option Addr) (c2:Nat):List S:=[exS34 A1 c1 5,exS34 A2 c2 2]
def qs34:List Q:=[exQ32 4,exQ32 2,exQ32 1]
section
variable (A1 : Option Addr) (c1 : Nat) (A2 : Option Addr) (c2 : Nat)
theorem k34_0:restE 2 exL32 (ss34 A1 c1 A2 c2) qs34 [] = 0∧(keep34 2 exL32 (ss34 A1 c1 A2 c2) qs34 []).1.kept=[0,1,2]∧(keep34 2 exL32 (ss34 A1 c1 A2 c2) qs34 []).1.tours.map (fun t=>t.2.end_)=[30,25]∧(keep34 2 exL32 (ss34 A1 c1 A2 c2) qs34 []).1.reasons.length=0∧(keep34 2 exL32 (ss34 A1 c1 A2 c2) qs34 []).2=0:=by
 refine ⟨?_,?_,?_,?_,?_⟩ <;> kernel_rfl
theorem k34_1:restE 2 exL32 (ss34 A1 c1 A2 c2) qs34 [1] = 0∧(keep34 2 exL32 (ss34 A1 c1 A2 c2) qs34 [1]).1.kept=[0,2]:=by
 refine ⟨?_,?_⟩ <;> kernel_rfl
theorem k34_2:restE 2 exL32 (ss34 A1 c1 A2 c2) qs34 [0] = 0∧(keep34 2 exL32 (ss34 A1 c1 A2 c2) qs34 [0]).1.kept=[1]:=by
 refine ⟨?_,?_⟩ <;> kernel_rfl
theorem k34_3:restE 2 exL32 (ss34 A1 c1 A2 c2) qs34 [0,1] = 0∧(keep34 2 exL32 (ss34 A1 c1 A2 c2) qs34 [0,1]).1.kept=[]:=by
 refine ⟨?_,?_⟩ <;> kernel_rfl
theorem k34_4:restE 2 exL32 (ss34 A1 c1 A2 c2) qs34 [1,0] = 1:=by kernel_rfl
theorem k34_5:rest34 2 exL32 (ss34 A1 c1 A2 c2) qs34 [0] = [exS34 A2 c2 2]:=by
 unfold rest34
 rw [if_pos (k34_2 A1 c1 A2 c2).1]
 rfl
end
end K
theorem len_split (p:Int→Bool):∀ v:List Int,v.length=(v.filter p).length + (v.filter fun j=>!p j).length
 | []=>rfl
 | a :: v=>by
  have ih:=len_split p v
  cases h:p a
  ·rw [List.filter_cons_of_neg (by simp [h]),List.filter_cons_of_pos (by simp [h]),List.length_cons,List.length_cons];omega
  ·rw [List.filter_cons_of_pos h,List.filter_cons_of_neg (by simp [h]),List.length_cons,List.length_cons];omega
theorem asc_len:∀ (v:List Int) (a b:Int),v.Pairwise (· < ·)→(∀ j ∈ v,a≤j∧j < b)→a≤b→(v.length:Int)≤b - a
 | [],a,b,_,_,h=>by show ((0:Nat):Int)≤b - a;omega
 | j :: v,a,b,h,hj,_=>by
  obtain ⟨h1,h2⟩:=List.pairwise_cons.1 h
  have h3:=hj j List.mem_cons_self
  have ih:=asc_len v (j + 1) b h2 (fun k hk=>⟨by have:=h1 k hk;omega,(hj k (List.mem_cons_of_mem _ hk)).2⟩) (by omega)
  rw [List.length_cons]
  omega
structure CSays (nd:Int) (l:List Ro) (R:List S) (r:List Q) (kept:List Int) (tours:List (Int × K.Tr)) (reasons:List (List (Int × List Int × List Lb))) (Z:Bool) (i:Nat) (sv:List Q):Prop where
 val:Z=K.kcheckGo nd l R kept tours i (r.drop i) sv (reasons.drop (i - sv.length))
 len:sv.length=(kept.filter fun j=>decide (j < (i:Int))).length
 le:sv.length≤i
 inr:∀ q ∈ sv,q ∈ r
section
variable {nd : Int} {l : List Ro} {R : List S} {r : List Q} {kept : List Int} {tours : List (Int × K.Tr)} {reasons : List (List (Int × List Int × List Lb))} {Z : Bool} {i : Nat} {sv : List Q} {q : Q}
theorem CSays.zero (h:K.asc33 r.length (-1) kept=true):CSays nd l R r kept tours reasons (K.kcheckGo nd l R kept tours 0 r [] reasons) 0 []:=by
 refine ⟨rfl,?_,Nat.le_refl _,fun q h=>(by cases h)⟩
 rw [K.filter_none fun j hj=>by have:=((K.asc33_iff.1 h).2 j hj).1;omega]
 rfl
theorem CSays.yes (h:CSays nd l R r kept tours reasons Z i sv) (ha:K.asc33 r.length (-1) kept=true) (hq:r[i]? = some q) (hc:kept.contains (i:Int)=true):CSays nd l R r kept tours reasons Z (i + 1) (sv ++ [q]):=by
 obtain ⟨hi,e⟩:=List.getElem?_eq_some_iff.1 hq
 have hf:=K.filter_succ (i:=(i:Int)) (K.asc33_iff.1 ha).1
 rw [if_pos hc] at hf
 refine ⟨?_,?_,?_,fun p hp=>?_⟩
 ·have hv:=h.val
  rw [List.drop_eq_getElem_cons hi,e,K.kcheckGo,if_pos hc] at hv
  rw [hv,List.length_append,List.length_singleton,Nat.add_sub_add_right]
 ·rw [List.length_append,h.len,Int.natCast_add,Int.natCast_one,hf,List.length_append]
  rfl
 ·have:=h.le
  rw [List.length_append,List.length_singleton]
  omega
 ·rcases List.mem_append.1 hp with hp | hp
  ·exact h.inr p hp
  ·rw [List.mem_singleton.1 hp];exact List.mem_of_getElem? hq
theorem CSays.no (h:CSays nd l R r kept tours reasons Z i sv) (ha:K.asc33 r.length (-1) kept=true) (hn:kept.length + reasons.length=r.length) (hq:r[i]? = some q) (hc:kept.contains (i:Int)=false) :
  ∃ b,reasons[i - sv.length]? = some b∧(K.refutes nd l R (sv ++ [q]) b=false→Z=false)∧(K.refutes nd l R (sv ++ [q]) b=true→CSays nd l R r kept tours reasons Z (i + 1) sv):=by
 obtain ⟨hi,e⟩:=List.getElem?_eq_some_iff.1 hq
 obtain ⟨a1,a2⟩:=K.asc33_iff.1 ha
 have hf:=K.filter_succ (i:=(i:Int)) a1
 rw [if_neg (by rw [hc];simp)] at hf
 have hle:=h.le
 have hlt:i - sv.length < reasons.length:=by
  have h1:=len_split (fun j=>decide (j < (i:Int))) kept
  have h2:=h.len
  have h3:=asc_len (kept.filter fun j=>!decide (j < (i:Int))) ((i:Int) + 1) (r.length:Int) (a1.sublist List.filter_sublist) (fun j hj=>by
   obtain ⟨g1,g2⟩:=List.mem_filter.1 hj
   have g3:=(a2 j g1).2
   have g4:j ≠ (i:Int):=fun e=>by rw [e] at g1;rw [List.contains_iff_mem.2 g1] at hc;cases hc
   simp at g2
   omega) (by omega)
  omega
 have hg:reasons[i - sv.length]? = some (reasons[i - sv.length]'hlt):=List.getElem?_eq_getElem hlt
 have hv:=h.val
 rw [List.drop_eq_getElem_cons hi,e,K.kcheckGo,if_neg (by rw [hc];simp),List.drop_eq_getElem_cons hlt] at hv
 change Z=(K.refutes nd l R (sv ++ [q]) (reasons[i - sv.length]'hlt) && K.kcheckGo nd l R kept tours (i + 1) (r.drop (i + 1)) sv (reasons.drop (i - sv.length + 1))) at hv
 refine ⟨_,hg,fun hr=>?_,fun hr=>⟨?_,?_,by omega,h.inr⟩⟩
 ·rw [hv,hr,Bool.false_and]
 ·rw [hr,Bool.true_and] at hv
  rw [hv,show i + 1 - sv.length=i - sv.length + 1 by omega]
 ·rw [h.len,Int.natCast_add,Int.natCast_one,hf]
end
theorem cs_snoc {w:World} {x:Cs} (hx:CsAt w x) {RA:Option Addr} {rn rc:Nat} {RL:List S} (hRS:Shifts w RA rn RL) (hrn:rn≤1000000) (hrs:∀ s ∈ RL,s.n≤1000000) {sv:List Q} {B:Nat} {v:Value} {n:Nat} (hn:n=sv.length)
  (hv:w.ownsRow B 47 7 v n (sv.flatMap Q.cells)) (hin:∀ p ∈ sv,p ∈ x.r) (hl:n≤1000000):∃ SB cB,v=.slice SB n cB∧CsAt w ⟨x.nd,x.A,x.n,x.c,x.l,RA,rn,rc,RL,SB,n,cB,sv⟩:=by
 obtain ⟨SB,cB,rfl,hRv,-⟩:=own_form hv
 exact ⟨SB,cB,rfl,hx.net,hRS,⟨hn,by rw [reqCells_flat];exact hRv,fun p hp=>hx.reqs.2.2 p (hin p hp)⟩,hx.b1,fun s hs=>by have:=hrs s hs;omega,by show rn≤_;omega,by show n≤_;omega,fun p hp=>hx.b5 p (hin p hp)⟩
theorem Rsn.at_ {w:World} {A:Option Addr} {n k:Nat} {l:List RV} (h:Rsn w A n l) (hk:k < n):∃ ad y,A=some ad∧l[k]? = some y∧Blks w y.A y.n y.bl∧w.cell? (ad.add k)=some (.slice y.A y.n y.c):=by
 obtain ⟨ad,y,hA,hl,hc⟩:=Lst.get (f:=RV.cells) (s:=1) (fun _=>rfl) h.1 hk
 refine ⟨ad,y,hA,hl,h.2 y (List.mem_of_getElem? hl),?_⟩
 have:=hc 0 _ (by omega) rfl
 rwa [Nat.mul_one,Nat.add_zero] at this
theorem any_contains {l:List Int} {x:Int}:l.any (· == x)=l.contains x:=by
 induction l with
 | nil=>rfl
 | cons a l ih =>
  rw [List.any_cons,List.contains_cons,ih]
  congr 1
  exact Bool.beq_comm ..
set_option maxRecDepth 100000 in
set_option maxHeartbeats 16000000 in
theorem check52_any (x:Cs) (LA:Option Addr) (ln lc:Nat) (lost:List Int) (KA:Option Addr) (kn kc:Nat) (kept:List Int) (TA:Option Addr) (tn tc:Nat) (ts:List TV) (RA:Option Addr) (rn rc:Nat) (rl:List RV) (w:World) (hx:CsAt w x) (hL:Ints w LA ln lost) (hK:Ints w KA kn kept) (hT:Tours w TA tn ts) (hR:Rsn w RA rn rl)
  (hln:ln≤1000000000) (hkn:kn≤1000000000) (hFT:FewT tn ts) (hFR:FewR rn rl) (hsn:x.sn≤1000000) (hsr:∀ s ∈ x.ss,s.n≤1000000) :
  Calls Tryz.prog 52 #[.agg #[.int .i64 x.nd,.slice x.A x.n x.c,.slice x.SA x.sn x.sc,.slice x.B x.m x.d],.slice LA ln lc,.slice KA kn kc,.slice TA tn tc,.slice RA rn rc] w fun e w'=>e=.returned (.bool (K.kcheck x.nd x.l x.ss x.r lost kept (ts.map TV.pr) (rl.map RV.pr)))∧Below w.heap.size w w':=by
 obtain ⟨w1,hw1⟩:∃ w1:World,w1=w.alloc (.cells #[.int .i64 x.nd,.slice x.A x.n x.c,.slice x.SA x.sn x.sc,.slice x.B x.m x.d] 44):=⟨_,rfl⟩
 obtain ⟨g,hg⟩:∃ g,g=w.heap.size:=⟨_,rfl⟩
 have b1:Below w.heap.size w w1:=by rw [hw1];exact (Below.refl _ _).alloc (Nat.le_refl _) _
 have hN1:BkBlk w1 g x:=by rw [hw1,hg];exact BkBlk.new _ _
 have p0:=blk_cell hN1 0 _ rfl
 have p1:=blk_cell hN1 1 _ rfl
 have p2:=blk_cell hN1 2 _ rfl
 have p3:=blk_cell hN1 3 _ rfl
 have CR:=rest45_any x LA ln lc lost w1 (hx.below b1) (hL.below b1) hln hsn hsr
 obtain ⟨Z,hZ⟩:∃ Z,Z=K.kcheck x.nd x.l x.ss x.r lost kept (ts.map TV.pr) (rl.map RV.pr):=⟨_,rfl⟩
 rw [←hZ]
 have HZ:=Lib.hid hZ
 clear hZ
 have HRN:=Lib.hid hx.reqs.1
 have HKN:=Lib.hid hK.1
 have HLN:=Lib.hid (show (rl.map RV.pr).length=rn by rw [List.length_map,hR.1.1])
 have hb4:=hx.b4
 have hfr:=hFR.1
 go_enter Tryz.func52,Tryz.ntmps52
 go_upto_region 1 with fail
 rw [←hw1,←hg]
 clear hw1 hg
 go_wp2_with fail
 refine CR.mono ?_
 obtain ⟨er,her⟩:∃ er,er=K.restE x.nd x.l x.ss x.r lost:=⟨_,rfl⟩
 rw [←her]
 have HER:=Lib.hid her
 clear her
 rintro e w2 ⟨⟨RA2,rn2,rc2,RL,rfl,hRS,hRB⟩,b2⟩
 have hN2:=hN1.below b2
 have hb2:=bel b1 b2
 clear CR p0 p1 p2 p3 b1 b2 hN1
 have p0:=blk_cell hN2 0 _ rfl
 have p1:=blk_cell hN2 1 _ rfl
 have p2:=blk_cell hN2 2 _ rfl
 have p3:=blk_cell hN2 3 _ rfl
 by_cases hz:er=0
 rotate_left
 ·have HX:=Lib.hid (show Z=false by rw [HZ.out];exact K.keep_wrong (by rw [←HER.out];exact hz) _ _ _)
  have hd:(er != 0)=true:=by simp [bne,hz]
  go_wp2_with fail
  go_ret
  exact ⟨by rw [HX.out];rfl,hb2⟩
 subst hz
 have hE0:K.restE x.nd x.l x.ss x.r lost=0:=HER.out.symm
 have HP:=Lib.hid (K.restE_0 hE0).2
 have hm6:x.m≤6:=by rw [hx.reqs.1];exact (K.pcheck_ok HP.out).2.2.2.2
 obtain ⟨R,hRe⟩:∃ R,R=K.rest34 x.nd x.l x.ss x.r lost:=⟨_,rfl⟩
 rw [←hRe] at hRB
 have HR:=Lib.hid (show R=K.restGo lost 0 x.ss by rw [hRe];unfold K.rest34;rw [if_pos hE0])
 obtain ⟨hrn,hrs⟩:=rest_small hx hsn hsr (by rw [hRe];exact rest34_sub) hRS hRB
 have HZ2:=Lib.hid (show Z=(K.asc33 x.r.length (-1) kept && ((kept.length + (rl.map RV.pr).length == x.r.length) && K.kcheckGo x.nd x.l R kept (ts.map TV.pr) 0 x.r [] (rl.map RV.pr))) by
  rw [HZ.out,HR.out];unfold K.kcheck;rw [hE0];rfl)
 have HRB:=Lib.hid hRB
 clear HZ HER hE0 hRe hRB
 have CA:=rising107_any KA kn kc kept x.m w2 (hK.below hb2) hkn (by omega)
 obtain ⟨z,hz⟩:∃ z,z=K.asc33 x.m (-1) kept:=⟨_,rfl⟩
 rw [←hz] at CA
 have HA:=Lib.hid (show z=K.asc33 x.r.length (-1) kept by rw [hz,HRN.out])
 clear hz
 obtain ⟨sm,hsm⟩:∃ sm,sm=kn + rn:=⟨_,rfl⟩
 have hwr:IntKind.i64.wrap ((kn:Int) + (rn:Int))=(sm:Int):=by rw [IntWalk.i64_in _ (by omega)];omega
 have HSS:=Lib.hid hsm
 clear hsm
 cases z
 ·have HX:=Lib.hid (show Z=false by rw [HZ2.out,←HA.out,Bool.false_and])
  go_wp2_with fail
  refine CA.mono ?_
  rintro e w3 ⟨rfl,b3⟩
  go_wp2_with fail
  go_ret
  exact ⟨by rw [HX.out];rfl,bel hb2 b3⟩
 go_wp2_with fail
 refine CA.mono ?_
 rintro e w3 ⟨rfl,b3⟩
 have hb3:=bel hb2 b3
 have hN3:=hN2.below b3
 have hRS3:=hRS.below b3
 clear CA p0 p1 p2 p3 hN2 hb2 b3 hRS
 have p0:=blk_cell hN3 0 _ rfl
 have p1:=blk_cell hN3 1 _ rfl
 have p2:=blk_cell hN3 2 _ rfl
 have p3:=blk_cell hN3 3 _ rfl
 by_cases hs:sm=x.m
 rotate_left
 ·have HX:=Lib.hid (show Z=false by rw [HZ2.out,←HA.out,Bool.true_and,HLN.out,←HKN.out,←HRN.out,←HSS.out,beq_eq_false_iff_ne.2 hs,Bool.false_and])
  have hd:((sm:Int) != (x.m:Int))=true:=by simp [bne];omega
  go_wp2_with fail
  go_ret
  exact ⟨by rw [HX.out];rfl,hb3⟩
 rw [hs] at hwr
 have HSM:=Lib.hid (show kept.length + (rl.map RV.pr).length=x.r.length by rw [HLN.out,←HKN.out,←HRN.out,←HSS.out];exact hs)
 have HZ3:=Lib.hid (show Z=K.kcheckGo x.nd x.l R kept (ts.map TV.pr) 0 x.r [] (rl.map RV.pr) by rw [HZ2.out,←HA.out,Bool.true_and,HSM.out,beq_self_eq_true,Bool.true_and])
 clear HZ2 hs HSS
 obtain ⟨B,hB⟩:∃ B,B=w3.heap.size:=⟨_,rfl⟩
 have hx3:=hx.below hb3
 have hK3:=hK.below hb3
 have hR3:=hR.below hb3
 have hT3:=hT.below hb3
 go_wp2_with fail
 clear p0 p1 p2 p3 hwr
 go_loopw [13,46] (fun v13 v46 wr=>∃ (i:Nat) (sv:List Q),v46=.int .i64 i∧i≤x.m∧wr.ownsRow B 47 7 v13 sv.length (sv.flatMap Q.cells)∧CSays x.nd x.l R x.r kept (ts.map TV.pr) (rl.map RV.pr) Z i sv∧Below w3.heap.size w3 wr) (fun _ v46 _=>x.m - (intOf v46).toNat)
 case atStart=>exact ⟨0,[],rfl,Nat.zero_le _,World.ownsRow_nil _ _ _ _,by rw [HZ3.out];exact CSays.zero HA.out.symm,Below.refl _ _⟩
 case round =>
  obtain ⟨i,sv,rfl,hi,hown,hS,hbr⟩:=hrel
  have hxr:=hx3.below hbr
  have hNr:=hN3.below hbr
  have hsl:=hS.le
  by_cases hlt:i < x.m
  ·obtain ⟨ad,q,hA,hq,hW,c0,c1,c2,c3,c4,c5,c6⟩:=hxr.reqs.at_ hlt
   have HQ:=Lib.hid hq
   have k0:(0:Int)≤(i:Int):=by omega
   have k1:(i:Int) < (x.m:Int):=by omega
   obtain ⟨gs,hgs⟩:∃ gs,gs=wr.heap.size:=⟨_,rfl⟩
   obtain ⟨w4,hw4⟩:∃ w4:World,w4=wr.alloc (.cells #[.int .i64 q.node,.int .i64 q.room,.int .i64 q.kilos,.int .i64 q.service,.int .i64 q.frm,.int .i64 q.by_,.slice q.A q.n q.c] 47):=⟨_,rfl⟩
   have b4:Below wr.heap.size wr w4:=by rw [hw4];exact (Below.refl _ _).alloc (Nat.le_refl _) _
   have hB4:QBlk w4 gs q:=by rw [hw4,hgs];exact QBlk.new _ _
   have CK:=contains64_any KA kn kc kept i w4 (hK3.below (bel hbr b4)) hkn
   obtain ⟨z,hz⟩:∃ z,z=kept.contains (i:Int):=⟨_,rfl⟩
   rw [any_contains,←hz] at CK
   have HC:=Lib.hid hz
   have hin:∀ p ∈ sv ++ [q],p ∈ x.r:=fun p hp=>by
    rcases List.mem_append.1 hp with hp | hp
    ·exact hS.inr p hp
    ·rw [List.mem_singleton.1 hp];exact List.mem_of_getElem? HQ.out
   rw [hA]
   have HAd:=Lib.hid hA
   clear hA hq hz
   go_upto_region 8 with fail
   rw [←hw4,←hgs]
   clear hw4 hgs c0 c1 c2 c3 c4 c5 c6
   go_wp2_with fail
   refine CK.mono ?_
   rintro e w5 ⟨rfl,b5⟩
   have b45:=bel b4 b5
   have hB5:=hB4.below b5
   have hown5:=own_below hown b45
   have hx5:=hxr.below b45
   have hN5:=hNr.below b45
   have hb5:=bel hbr b45
   clear CK hB4 b4 b5
   obtain ⟨s0,s1,s2,s3,s4,s5,s6⟩:=hB5.cells
   cases z
   rotate_left
   ·have HSY:=Lib.hid (hS.yes HA.out.symm HQ.out HC.out.symm)
    obtain ⟨w8,hw8⟩:∃ w8:World,w8=w5.alloc (.cells #[.int .i64 q.node,.int .i64 q.room,.int .i64 q.kilos,.int .i64 q.service,.int .i64 q.frm,.int .i64 q.by_,.slice q.A q.n q.c] 47):=⟨_,rfl⟩
    obtain ⟨g8,hg8⟩:∃ g,g=w5.heap.size:=⟨_,rfl⟩
    have b8:Below w5.heap.size w5 w8:=by rw [hw8];exact (Below.refl _ _).alloc (Nat.le_refl _) _
    have hL8:w8.heap[g8]? = some (.cells #[.int .i64 q.node,.int .i64 q.room,.int .i64 q.kilos,.int .i64 q.service,.int .i64 q.frm,.int .i64 q.by_,.slice q.A q.n q.c] 47 (0,0)):=by rw [hw8,hg8];exact heap_alloc_new _ _
    have hown8:=own_below hown5 b8
    have hb8:=bel hb5 b8
    have hz8:B≤w8.heap.size:=by rw [hB];exact hb8.size
    obtain ⟨i0,hi0,hy0,hy1,hy2⟩:=info_parts clone120_info
    go_wp2_with (first
     | (at_builtin;rw [←hw8,←hg8];refine wp_append_rd rfl _ _ 26 rfl B 47 i0 (.agg #[.int .i64 0,.int .i64 0,.int .i64 0,.int .i64 0,.int .i64 0,.int .i64 0,.slice none 0 0]) 7 72 Tryz.underlying26 hi0 hy0 hy1 hy2 rfl (by decide) _ sv.length (sv.flatMap Q.cells) rfl hown8 (some ⟨g8,0,none⟩) 1 1 (Q.cells q) rfl (Rd.of_block hL8 7 1 rfl) (req_one q) (by simp only [maxLen];omega) (by omega) hz8 ?_;intro v9 w9 hown9 hgr9 ha9)
     | fail)
    have hb9:Below w3.heap.size w3 w9:=below_own2 hb8 hgr9 (fun g e=>by rw [←hB];exact (own_in hown8 g e).1)
    have hown9':w9.ownsRow B 47 7 v9 (sv ++ [q]).length ((sv ++ [q]).flatMap Q.cells):=by
     rw [List.length_append,List.flatMap_append,List.flatMap_singleton]
     exact hown9
    clear s0 s1 s2 s3 s4 s5 s6 hown8 hown9 hgr9 ha9
    go_roundw
    case rel=>(go_light;exact ⟨i + 1,sv ++ [q],by go_num,hlt,hown9',HSY.out,hb9⟩)
    case measure=>(go_light;simp [intOf];omega)
   ·obtain ⟨bb,hbb,hno,hyes⟩:=hS.no HA.out.symm HSM.out HQ.out HC.out.symm
    obtain ⟨j,hj⟩:∃ j,j=i - sv.length:=⟨_,rfl⟩
    rw [←hj] at hbb
    have hjn:j < rn:=by
     have:=(List.getElem?_eq_some_iff.1 hbb).1
     have:=HLN.out
     omega
    have hR5:=hR3.below hb5
    obtain ⟨adR,y,hRA,hy,hyB,cy⟩:=hR5.at_ hjn
    have HY:=Lib.hid (show y.bl.map BV.pr=bb by
     rw [List.getElem?_map,hy] at hbb
     injection hbb)
    have hFB:=(hFR.2 y (List.mem_of_getElem? hy)).1
    have HNO:=Lib.hid hno
    have HYES:=Lib.hid hyes
    have hsub:IntKind.i64.wrap ((i:Int) - (sv.length:Int))=((j:Nat):Int):=by rw [IntWalk.i64_in _ (by omega)];omega
    have j0:(0:Int)≤(j:Int):=by omega
    have j1:(j:Int) < (rn:Int):=by omega
    obtain ⟨SV,svc,rfl,hRv,-⟩:=own_form hown5
    have q0:=blk_cell hN5 0 _ rfl
    have q1:=blk_cell hN5 1 _ rfl
    have hbd:Below w5.heap.size w5 w5.drew:=(Below.refl _ _).drew
    have hmk:∀ w',Below w5.heap.size w5 w'→(fun w':World=>w'.cell? ⟨g,0,none⟩=some (.int .i64 x.nd)∧w'.cell? ⟨g,1,none⟩=some (.slice x.A x.n x.c)∧w'.cell? (adR.add j)=some (.slice y.A y.n y.c)∧w'.cell? ⟨gs,0,none⟩=some (.int .i64 q.node)∧w'.cell? ⟨gs,1,none⟩=some (.int .i64 q.room)∧w'.cell? ⟨gs,2,none⟩=some (.int .i64 q.kilos)∧w'.cell? ⟨gs,3,none⟩=some (.int .i64 q.service)∧w'.cell? ⟨gs,4,none⟩=some (.int .i64 q.frm)∧w'.cell? ⟨gs,5,none⟩=some (.int .i64 q.by_)∧w'.cell? ⟨gs,6,none⟩=some (.slice q.A q.n q.c)) w':=fun w' h =>
     ⟨(h.cell (cell_lt q0)).trans q0,(h.cell (cell_lt q1)).trans q1,(h.cell (cell_lt cy)).trans cy,(h.cell (cell_lt s0)).trans s0,(h.cell (cell_lt s1)).trans s1,(h.cell (cell_lt s2)).trans s2,(h.cell (cell_lt s3)).trans s3,(h.cell (cell_lt s4)).trans s4,(h.cell (cell_lt s5)).trans s5,(h.cell (cell_lt s6)).trans s6⟩
    have S0:=hmk _ (Below.refl _ _)
    have S0d:=hmk _ hbd
    have CW:=with112_any SV sv.length svc sv q w5.drew (hRv.below hbd) (by omega)
    have hxd:=hx5.below hbd
    have hRSd:=(hRS3.below hb5).below hbd
    have hyBd:=hyB.below hbd
    have hlen:sv.length + 1=(sv ++ [q]).length:=by rw [List.length_append];rfl
    have hl1:sv.length + 1≤1000000:=by omega
    have CW:Calls Tryz.prog 112 #[.slice SV sv.length svc,.agg #[.int .i64 q.node,.int .i64 q.room,.int .i64 q.kilos,.int .i64 q.service,.int .i64 q.frm,.int .i64 q.by_,.slice q.A q.n q.c]] w5.drew fun e w'=>(∃ SB cB,e=.returned (.slice SB (sv.length + 1) cB)∧CsAt w' ⟨x.nd,x.A,x.n,x.c,x.l,RA2,rn2,rc2,RL,SB,sv.length + 1,cB,sv ++ [q]⟩)∧Below w5.drew.heap.size w5.drew w':=by
     refine CW.mono ?_
     rintro e w6 ⟨⟨v6,rfl,hv6⟩,b6⟩
     obtain ⟨SB,cB,rfl,hCs⟩:=cs_snoc (rc:=rc2) (hxd.below b6) (hRSd.below b6) hrn hrs hlen hv6 hin hl1
     exact ⟨⟨SB,cB,rfl,hCs⟩,b6⟩
    clear hj hlen hl1 hRSd hxd
    rw [hRA]
    have HRA:=Lib.hid hRA
    clear hRA s0 s1 s2 s3 s4 s5 s6 q0 q1 cy hbb hno hyes hy
    go_wp2_with fail
    go_region_held3 (fun w':World=>w'.cell? ⟨g,0,none⟩=some (.int .i64 x.nd)∧w'.cell? ⟨g,1,none⟩=some (.slice x.A x.n x.c)∧w'.cell? (adR.add j)=some (.slice y.A y.n y.c)∧w'.cell? ⟨gs,0,none⟩=some (.int .i64 q.node)∧w'.cell? ⟨gs,1,none⟩=some (.int .i64 q.room)∧w'.cell? ⟨gs,2,none⟩=some (.int .i64 q.kilos)∧w'.cell? ⟨gs,3,none⟩=some (.int .i64 q.service)∧w'.cell? ⟨gs,4,none⟩=some (.int .i64 q.frm)∧w'.cell? ⟨gs,5,none⟩=some (.int .i64 q.by_)∧w'.cell? ⟨gs,6,none⟩=some (.slice q.A q.n q.c))
     (first | with_reducible exact S7 | with_reducible exact S6 | with_reducible exact S0d | with_reducible exact S0 | fail)
     (first
      | (go_at_call 112;refine CW.mono ?_;rintro e w6 ⟨⟨SB,cB,rfl,hCs⟩,b6⟩;have S6:=hmk _ (bel hbd b6))
      | (go_at_call 28;refine (refutes32_any ⟨x.nd,x.A,x.n,x.c,x.l,RA2,rn2,rc2,RL,SB,sv.length + 1,cB,sv ++ [q]⟩ y.A y.n y.c y.bl _ hCs (hyBd.below b6) hFB).mono ?_;rintro e w7 ⟨rfl,b7⟩;have S7:=hmk _ (bel (bel hbd b6) b7))
      | fail)
    rw [show K.refutes (Cs.nd ⟨x.nd,x.A,x.n,x.c,x.l,RA2,rn2,rc2,RL,SB,sv.length + 1,cB,sv ++ [q]⟩) (Cs.l ⟨x.nd,x.A,x.n,x.c,x.l,RA2,rn2,rc2,RL,SB,sv.length + 1,cB,sv ++ [q]⟩) (Cs.ss ⟨x.nd,x.A,x.n,x.c,x.l,RA2,rn2,rc2,RL,SB,sv.length + 1,cB,sv ++ [q]⟩) (Cs.r ⟨x.nd,x.A,x.n,x.c,x.l,RA2,rn2,rc2,RL,SB,sv.length + 1,cB,sv ++ [q]⟩) (y.bl.map BV.pr)=K.refutes x.nd x.l R (sv ++ [q]) bb by rw [HY.out];exact K.refutes_same rfl HRB.out _]
    obtain ⟨z,hz⟩:∃ z,z=K.refutes x.nd x.l R (sv ++ [q]) bb:=⟨_,rfl⟩
    rw [←hz]
    have HRZ:=Lib.hid hz
    have hb7:=bel hb5 (bel (bel hbd b6) b7)
    have hown7:=own_below hown (bel (bel (bel b45 hbd) b6) b7)
    clear hz hmk
    cases z
    ·have HX:=Lib.hid (HNO.out HRZ.out.symm)
     go_wp2_with fail
     go_ret
     exact ⟨by rw [HX.out];rfl,bel hb3 hb7⟩
    ·have HSY:=Lib.hid (HYES.out HRZ.out.symm)
     go_wp2_with fail
     rw [←HRA.out]
     go_roundw
     case rel=>(go_light;exact ⟨i + 1,sv,by go_num,hlt,hown7,HSY.out,hb7⟩)
     case measure=>(go_light;simp [intOf];omega)
  ·have hd:decide ((i:Int) < (x.m:Int))=false:=by simp;omega
   have hd2:decide (i < x.m)=false:=by simp;omega
   have HI:Hid (i=x.r.length):=Lib.hid (by rw [←HRN.out];omega)
   obtain ⟨SB,cB,rfl,hCs⟩:=cs_snoc (rc:=rc2) hxr (hRS3.below hbr) hrn hrs rfl hown hS.inr (by omega)
   have CC:=checks32_any ⟨x.nd,x.A,x.n,x.c,x.l,RA2,rn2,rc2,RL,SB,sv.length,cB,sv⟩ TA tn tc ts wr hCs (hT3.below hbr) hFT
   rw [show K.checks (Cs.nd ⟨x.nd,x.A,x.n,x.c,x.l,RA2,rn2,rc2,RL,SB,sv.length,cB,sv⟩) (Cs.l ⟨x.nd,x.A,x.n,x.c,x.l,RA2,rn2,rc2,RL,SB,sv.length,cB,sv⟩) (Cs.ss ⟨x.nd,x.A,x.n,x.c,x.l,RA2,rn2,rc2,RL,SB,sv.length,cB,sv⟩) (Cs.r ⟨x.nd,x.A,x.n,x.c,x.l,RA2,rn2,rc2,RL,SB,sv.length,cB,sv⟩) (ts.map TV.pr)=K.checks x.nd x.l R sv (ts.map TV.pr) from K.checks_same rfl HRB.out _] at CC
   obtain ⟨ce,hce⟩:∃ ce,ce=K.checks x.nd x.l R sv (ts.map TV.pr):=⟨_,rfl⟩
   rw [←hce] at CC
   have HV:=Lib.hid (show Z=(ce == 0) by
    rw [hS.val,HI.out,List.drop_length,hce]
    rfl)
   have p0:=blk_cell hNr 0 _ rfl
   have p1:=blk_cell hNr 1 _ rfl
   clear hce
   go_wp2_with fail
   refine CC.mono ?_
   rintro e w9 ⟨rfl,b9⟩
   go_wp2_with fail
   go_ret
   exact ⟨by rw [HV.out];rfl,bel hb3 (bel hbr b9)⟩
end Go.Proofs.YtippdjmpkafifaaGreat
