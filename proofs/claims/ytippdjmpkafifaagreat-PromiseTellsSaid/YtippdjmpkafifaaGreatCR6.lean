import Derived.Test.YtippdjmpkafifaaGreatCR5
import Derived.Laws.CopyOwn
set_option maxRecDepth 100000
set_option maxHeartbeats 64000000
namespace Go.Proofs.YtippdjmpkafifaaGreat
open Go.RowKit
theorem T.VW {s:S} {r:List Q} {l:ag} (hl:l.length<=1000):(Lit.int .i64 (T.weight s r l)).wf=true:=by
 cases h:T.load s r l
 ·rw [T.aem h];exact E5 (by decide) (by decide)
 ·have:=T.amA h hl;exact E5 (by omega) (by omega)
namespace K
def nodes (r:List Q) (v:ag):List Int:=v.map λk=>(req r k).node
def firsts (nd:Int) (l:List Ro) (wt tn:Int) (z:List (Int × Int)) (f:Int):Int:=z.foldl (λf x=>gm (way nd l x.1 wt tn) f x.2) f
def oV (nd:Int) (l:List Ro) (s:S) (wt tn:Int) (rest:Nat):Int:=if rest=0 then gm (way nd l s.ax wt tn) (-1) s.start else -1
def arrives (nd:Int) (l:List Ro) (s:S) (r:List Q) (v:ag) (row:ag) (rest:Nat) (q:Q):Int :=
 firsts nd l (T.weight s r (part v rest)) q.node ((nodes r v).zip row) (oV nd l s (T.weight s r (part v rest)) q.node rest)
def labelOf (s:S) (r:List Q) (q:Q) (all:ag) (first:Int):Int:=if first=-1 then -1 else if (begins s r q all first).2=true then (begins s r q all first).1 + q.service else -1
def label (nd:Int) (l:List Ro) (s:S) (r:List Q) (v:ag) (row:ag) (rest i:Nat) (q:Q):Int:=labelOf s r q (part v (rest + 2 ^ i)) (arrives nd l s r v row rest q)
theorem wW {s:S} {r:List Q} {q:Q} {all:ag} {arr:Int} (h:(begins s r q all arr).2=true):(s.day < q.aI\/q.aP < s.day\/s.end_ < arr\/T.fits s r all=false)=False/\(H.fit q.l arr q.service).2=true/\(begins s r q all arr).1=(H.fit q.l arr q.service).1/\0<=arr/\arr<=(begins s r q all arr).1/\(begins s r q all arr).1 + q.service<=s.end_/\(begins s r q all arr).1 + q.service<=1000000:=by
 unfold begins at h ⊢;by_cases hc:s.day < q.aI\/q.aP < s.day\/s.end_ < arr\/T.fits s r all=false
 ·rw [if_pos hc] at h;cases h
 ·rw [if_neg hc] at h ⊢;simp only [dH,gu] at h;obtain ⟨-,⟨a0,-⟩,-,g1,g2⟩:=H.oZ h.1;exact ⟨eq_false hc,h.1,rfl,a0,g1,h.2,g2⟩
theorem agA {nd:Int} {l:List Ro} {wt tn f:Int} {z:List (Int × Int)} {k:Nat} {x:Int × Int} (h:z[k]? = some x):firsts nd l wt tn (z.take (k + 1)) f=gm (way nd l x.1 wt tn) (firsts nd l wt tn (z.take k) f) x.2:=by
 unfold firsts;rw [take_snoc h,List.foldl_append];rfl
end K
theorem agU {w w1 w2:World} {mb g:Nat} (h:w.grownBy w1 (some mb)) (h2:jD w1 w2 mb g) (hg:w.heap.size<=g):w.grownBy w2 (some mb) :=
 ⟨h2.os.trans h.os,h2.tape.trans h.tape,h2.output.trans h.output,aN h.size h2.size,λk hk hne=>(h2.block k (dO hk h.size) (λe=>hne (by rw [e])) (by omega)).trans (h.block k hk hne)⟩
theorem K.Jl {nd:Int} {r:List Q}:∀ (v:ag) (p:Int),K.l9 nd r p v=true->∀ k ∈ v,0<=k/\k < (r.length:Int)/\(K.req r k).node < nd
 | [],_,_=>λk hk=>by cases hk
 | i :: v,p,h=>λk hk=>by
  simp only [K.l9,dH,gu] at h;rcases dw.1 hk with rfl | hk
  ·exact ⟨h.1,h.2.1,h.2.2.2.1⟩
  ·exact K.Jl v i h.2.2.2.2 k hk
theorem dZ.elem {w:World} {b mb:Nat} {p:PS} {X:Nat->Prop} (h:dZ w b mb p X) {k:Nat} (hk:k < p.n) :
  ∃ j q,Elem p k j q/\(0<=q.node/\q.node < p.x.nd)/\(0<=q.service/\q.service<=1000000)/\(K.nodes p.x.r p.l)[k]? = some q.node:=by
 obtain ⟨hne,hck,hdp,hrq,dP,hgo⟩:=K.jl h.ok;have hlt:k < p.l.length:=by rw [<-h.set.1];exact hk
 have hg:p.l[k]? = some p.l[k]:=zF hlt;obtain ⟨h0,h1,h2⟩:=K.Jl _ _ hgo _ (List.getElem_mem hlt);obtain ⟨j,hj⟩:∃ j:Nat,p.l[k] = (j:Int):=⟨p.l[k].toNat,by omega⟩;rw [hj] at hg h0 h1 h2;obtain ⟨q,hq⟩:∃ q,p.x.r[j]? = some q:=⟨_,zF (by omega)⟩;obtain ⟨⟨n0,-⟩,hs,-⟩:=K.Dl (hrq q (zD hq));rw [K.lZ hq] at h2;exact ⟨j,q,⟨hg,hq⟩,⟨n0,h2⟩,hs,by rw [K.nodes,dG,hg];simp [K.lZ hq]⟩
structure lH (w:World) (b mb rest i:Nat) (p:PS) (X:Nat->Prop) (first:Int) (wr:World):Prop where
 grown:w.grownBy wr (some mb)
 memo:fZ wr mb p.x.nd p.x.l (λg=>X g\/g=w.heap.size + 1 + 1 + 1)
 g4:wr.heap[w.heap.size]? = some (.cells #[.pointer (some ⟨b,0,none⟩)] 162 (0,0))
 g7:wr.heap[w.heap.size + 1]? = some (.cells #[.int .i64 (i:Int)] 3 (0,0))
 g9:wr.heap[w.heap.size + 1 + 1]? = some (.cells #[.int .i64 (rest:Int)] 3 (0,0))
 g10:wr.heap[w.heap.size + 1 + 1 + 1]? = some (.cells #[.int .i64 first] 3 (0,0))
theorem lH.pat {w wr:World} {b mb rest i:Nat} {p:PS} {X:Nat->Prop} {first:Int} (h:lH w b mb rest i p X first wr) (hp:dZ w b mb p X):dZ wr b mb p (λg=>X g\/g=w.heap.size + 1 + 1 + 1) :=
 (hp.more (Y:=λg=>X g\/g=w.heap.size + 1 + 1 + 1) (λg hg hy=>hy.resolve_right (by omega))).keep (hp.memo.ext h.grown) h.memo
theorem lH.below {w wr w':World} {b mb rest i:Nat} {p:PS} {X:Nat->Prop} {first:Int} (h:lH w b mb rest i p X first wr) (hb:af wr w'):lH w b mb rest i p X first w' :=
 ⟨jg h.grown hb,h.memo.below hb,au hb h.g4,au hb h.g7,au hb h.g9,au hb h.g10⟩
theorem lH.gm {w wr w':World} {b mb rest i:Nat} {p:PS} {X:Nat->Prop} {first f':Int} {e:Ending} (h:lH w b mb rest i p X first wr) (hn:JX wr w' mb (w.heap.size + 1 + 1 + 1) p (λg=>X g\/g=w.heap.size + 1 + 1 + 1) f' e) (hmb:mb < w.heap.size):lH w b mb rest i p X f' w':=by
 obtain ⟨-,hB,hM,hg⟩:=hn;exact ⟨agU h.grown hB (by omega),hM,(hB.block _ (lt_of_block h.g4) (by omega) (by omega)).trans h.g4,(hB.block _ (lt_of_block h.g7) (by omega) (by omega)).trans h.g7,(hB.block _ (lt_of_block h.g9) (by omega) (by omega)).trans h.g9,hg⟩
theorem lH.cells {w wr:World} {b mb rest i:Nat} {p:PS} {X:Nat->Prop} {first:Int} (h:lH w b mb rest i p X first wr):wr.cell? ⟨w.heap.size,0,none⟩=some (.pointer (some ⟨b,0,none⟩))/\wr.cell? ⟨w.heap.size + 1,0,none⟩=some (.int .i64 (i:Int))/\wr.cell? ⟨w.heap.size + 1 + 1,0,none⟩=some (.int .i64 (rest:Int))/\wr.cell? ⟨w.heap.size + 1 + 1 + 1,0,none⟩=some (.int .i64 first) :=
 ⟨ah h.g4 0 _ rfl,ah h.g7 0 _ rfl,ah h.g9 0 _ rfl,ah h.g10 0 _ rfl⟩
theorem lH.start {w:World} {b mb:Nat} {p:PS} {X:Nat->Prop} (hp:dZ w b mb p X) (rest i:Nat) :
  lH w b mb rest i p X (-1) ((((w.alloc (.cells #[.pointer (some ⟨b,0,none⟩)] 162)).alloc (.cells #[.int .i64 (i:Int)] 3)).alloc (.cells #[.int .i64 (rest:Int)] 3)).alloc (.cells #[.int .i64 (-1)] 3)):=by
 have z1:=aF w (.cells #[.pointer (some ⟨b,0,none⟩)] 162);have z2:=aF (w.alloc (.cells #[.pointer (some ⟨b,0,none⟩)] 162)) (.cells #[.int .i64 (i:Int)] 3);have z3:=aF ((w.alloc (.cells #[.pointer (some ⟨b,0,none⟩)] 162)).alloc (.cells #[.int .i64 (i:Int)] 3)) (.cells #[.int .i64 (rest:Int)] 3);have hb:af w ((((w.alloc (.cells #[.pointer (some ⟨b,0,none⟩)] 162)).alloc (.cells #[.int .i64 (i:Int)] 3)).alloc (.cells #[.int .i64 (rest:Int)] 3)).alloc (.cells #[.int .i64 (-1)] 3)) :=
  bel (bel (bel (ai.alloc (zG _) _) (ai.alloc (zG _) _)) (ai.alloc (zG _) _)) (ai.alloc (zG _) _)
 refine ⟨jg (qy w _) hb,(hp.memo.more (λg hg hy=>hy.resolve_right (by omega))).below hb,aO (aO (aO (aA _ _) _) _) _,aO (aO (bU _ _ _ z1.symm) _) _,aO (bU _ _ _ (by rw [z2,z1])) _,bU _ _ _ (by rw [z3,z2,z1])⟩
theorem air (b mb:Nat) (p:PS) (go N Nc m rest i j:Nat) (q:Q) (row:ag) (R:aj) (rn rc:Nat) (w:World) {X:Nat->Prop} (hp:dZ w b mb p X) (hX:∀ g,X g->g < w.heap.size)
  (he:Elem p i j q) (hno:0<=q.node/\q.node < p.x.nd) (hse:0<=q.service/\q.service<=1000000) (hm:m < 64) (Ce:m.testBit i=true) (hrest:rest + 2 ^ i=m) (jU:rest.testBit i=false)
  (hrow:w.cell? ⟨go,rest,none⟩=some (.slice R rn rc)) (hN:rest < N) (hR:Ints w R rn row) (hrl:row.length=p.l.length) (hrb:∀ t ∈ row,-1<=t/\t<=1000000) :
  ay 177 #[.pointer (some ⟨b,0,none⟩),.slice (some ⟨go,0,none⟩) N Nc,.int .i64 m,.int .i64 i] w λe w'=>e=.returned (.int .i64 (K.label p.x.nd p.x.l p.x.s p.x.r p.l row rest i q))/\lJ w w' b mb p X:=by
 obtain ⟨hi,hj⟩:=he.lt hp;obtain ⟨hne,hck,hdp,hrq,dP,hgo⟩:=K.jl hp.ok;obtain ⟨-,⟨d0,d1⟩,st0,st1,tC⟩:=K.tu hck;have nP:p.n<=6:=by rw [hp.set.1];exact dP
 have hwt:(Lit.int .i64 (T.weight p.x.s p.x.r (K.part p.l rest))).wf=true:=T.VW (by have:=K.qM p.l rest;omega);have hlt:=lt_of_block hp.blk;have hand:bits BinOp.andNot IntKind.i64 (m:Int) (IntKind.i64.wrap (2 ^ i))=(rest:Int):=by rw [sG (by omega),afm hm (by omega) Ce,show m - 2 ^ i=rest by omega]
 have HFI:=zC (show (if rest=0 then K.gm (K.way p.x.nd p.x.l p.x.s.ax (T.weight p.x.s p.x.r (K.part p.l rest)) q.node) (-1) p.x.s.start else -1)=K.oV p.x.nd p.x.l p.x.s (T.weight p.x.s p.x.r (K.part p.l rest)) q.node rest from rfl);have hrm:rest < 64:=by have:=Nat.two_pow_pos i;omega
 have hand':bits BinOp.andNot IntKind.i64 (m:Int) (wrap64 (2 ^ i))=(rest:Int):=by rw [<-IntWalk.i64_left];exact hand
 have hmb:=hp.memo.lt;have HRS:=zC hrest;have JD:=zC hdp;clear hne hck hrq hgo hrest;have hL:=lH.start hp rest i;obtain ⟨w4,hw4⟩:=zB (((((w.alloc (.cells #[.pointer (some ⟨b,0,none⟩)] 162)).alloc (.cells #[.int .i64 (i:Int)] 3)).alloc (.cells #[.int .i64 (rest:Int)] 3)).alloc (.cells #[.int .i64 (-1)] 3)));obtain ⟨k2,k3⟩:=zJ (a:=rest) (b:=N) (by omega);go_enter Tryz.func177,Tryz.ntmps177;obtain ⟨z0,hz0⟩:∃ z0:Bool,((rest:Int) == 0)=z0:=⟨_,rfl⟩;go_upto_if 22 with fail
 rw [<-hw4];rw [<-hw4] at hL;clear hand hand' hw4;go_cut [10] from 23 to 34 (λv10 wc=>v10=.pointer (some ⟨w.heap.size + 1 + 1 + 1,0,none⟩)/\lH w b mb rest i p X (K.oV p.x.nd p.x.l p.x.s (T.weight p.x.s p.x.r (K.part p.l rest)) q.node rest) wc)
 case first =>
  obtain ⟨l0,l1,l2,l3⟩:=hL.cells;cases z0;rotate_left
  ·have hr0:rest=0:=by simpa using hz0
   have O9:=zC (show K.oV p.x.nd p.x.l p.x.s (T.weight p.x.s p.x.r (K.part p.l rest)) q.node rest=K.gm (K.way p.x.nd p.x.l p.x.s.ax (T.weight p.x.s p.x.r (K.part p.l rest)) q.node) (-1) p.x.s.start by unfold K.oV;rw [if_pos hr0]);clear hr0 hz0;go_wp2_with fail;clear l0 l1 l2 l3;have hp4:=hL.pat hp;have BG:=hL.below (w':=w4.drew) ai.drew;have ahP:=BG.pat hp;have hS:∀ w',lH w b mb rest i p X (-1) w'->(λw'=>w'.cell? ⟨w.heap.size,0,none⟩=some (.pointer (some ⟨b,0,none⟩))/\w'.cell? ⟨w.heap.size + 1,0,none⟩=some (.int .i64 (i:Int))/\w'.cell? ⟨w.heap.size + 1 + 1,0,none⟩=some (.int .i64 (rest:Int))/\w'.cell? ⟨b,0,none⟩=some (.int .i64 p.x.nd)/\w'.cell? ⟨b,1,none⟩=some (.slice p.x.A p.x.n p.x.c)/\w'.cell? ⟨b,2,none⟩=some (.int .i64 p.x.s.day)/\w'.cell? ⟨b,3,none⟩=some (.int .i64 p.x.s.ax)/\w'.cell? ⟨b,4,none⟩=some (.int .i64 p.x.s.start) /\
  w'.cell? ⟨b,5,none⟩=some (.int .i64 p.x.s.end_)/\w'.cell? ⟨b,6,none⟩=some (.int .i64 p.x.s.aU)/\w'.cell? ⟨b,7,none⟩=some (.slice p.x.s.A p.x.s.n p.x.s.c)/\w'.cell? ⟨b,8,none⟩=some (.slice p.x.B p.x.m p.x.d)/\w'.cell? ⟨b,9,none⟩=some (.slice p.A p.n p.c)/\w'.cell? ⟨b,10,none⟩=some (.map (some mb))) w':=λw' h=>⟨h.cells.1,h.cells.2.1,h.cells.2.2.1,(h.pat hp).blk.cells⟩
   have lC:∀ w' f,lH w b mb rest i p X f w'->(λw'=>w'.cell? ⟨w.heap.size,0,none⟩=some (.pointer (some ⟨b,0,none⟩))/\w'.cell? ⟨w.heap.size + 1,0,none⟩=some (.int .i64 (i:Int))/\w'.cell? ⟨w.heap.size + 1 + 1,0,none⟩=some (.int .i64 (rest:Int))/\w'.cell? ⟨b,0,none⟩=some (.int .i64 p.x.nd)/\w'.cell? ⟨b,1,none⟩=some (.slice p.x.A p.x.n p.x.c)/\w'.cell? ⟨b,2,none⟩=some (.int .i64 p.x.s.day)/\w'.cell? ⟨b,3,none⟩=some (.int .i64 p.x.s.ax)/\w'.cell? ⟨b,4,none⟩=some (.int .i64 p.x.s.start) /\
  w'.cell? ⟨b,5,none⟩=some (.int .i64 p.x.s.end_)/\w'.cell? ⟨b,6,none⟩=some (.int .i64 p.x.s.aU)/\w'.cell? ⟨b,7,none⟩=some (.slice p.x.s.A p.x.s.n p.x.s.c)/\w'.cell? ⟨b,8,none⟩=some (.slice p.x.B p.x.m p.x.d)/\w'.cell? ⟨b,9,none⟩=some (.slice p.A p.n p.c)/\w'.cell? ⟨b,10,none⟩=some (.map (some mb))) w':=λw' f h=>⟨h.cells.1,h.cells.2.1,h.cells.2.2.1,(h.pat hp).blk.cells⟩
   have S0:=hS _ hL;have aQ:=hS _ BG;have hX1:∀ g,(X g\/g=w.heap.size + 1 + 1 + 1)->g < w4.heap.size:=λg hg=>by
    rcases hg with hg | hg
    ·exact dO (hX g hg) hL.grown.size
    ·rw [hg];exact lt_of_block hL.g10
   go_region_held3 (λw'=>w'.cell? ⟨w.heap.size,0,none⟩=some (.pointer (some ⟨b,0,none⟩))/\w'.cell? ⟨w.heap.size + 1,0,none⟩=some (.int .i64 (i:Int))/\w'.cell? ⟨w.heap.size + 1 + 1,0,none⟩=some (.int .i64 (rest:Int))/\w'.cell? ⟨b,0,none⟩=some (.int .i64 p.x.nd)/\w'.cell? ⟨b,1,none⟩=some (.slice p.x.A p.x.n p.x.c)/\w'.cell? ⟨b,2,none⟩=some (.int .i64 p.x.s.day)/\w'.cell? ⟨b,3,none⟩=some (.int .i64 p.x.s.ax)/\w'.cell? ⟨b,4,none⟩=some (.int .i64 p.x.s.start) /\
  w'.cell? ⟨b,5,none⟩=some (.int .i64 p.x.s.end_)/\w'.cell? ⟨b,6,none⟩=some (.int .i64 p.x.s.aU)/\w'.cell? ⟨b,7,none⟩=some (.slice p.x.s.A p.x.s.n p.x.s.c)/\w'.cell? ⟨b,8,none⟩=some (.slice p.x.B p.x.m p.x.d)/\w'.cell? ⟨b,9,none⟩=some (.slice p.A p.n p.c)/\w'.cell? ⟨b,10,none⟩=some (.map (some mb)))
    (first | assumption | exact S0 | exact aQ)
    (first
     | (go_at_call 204;refine (note_any b mb p i j q rest p.x.s.ax p.x.s.start (-1) w.heap.size (w.heap.size + 1) (w.heap.size + 1 + 1) (w.heap.size + 1 + 1 + 1) w4.drew ahP hX1 BG.g4 BG.g7 BG.g9 BG.g10 (.inr rfl) he (by omega) ⟨d0,JD.out⟩ hno hwt (by omega)).mono ?_;rintro e w5 hnt;have hL5:=BG.gm hnt hmb;have S5:=lC _ _ hL5;obtain ⟨rfl,-⟩:=hnt)
     | fail)
   go_wp2_with fail;go_meet
   case rel=>exact ⟨rfl,by rw [O9.out];exact hL5⟩
  ·have hr0:¬ rest=0:=by simpa using hz0
   have O9:=zC (show K.oV p.x.nd p.x.l p.x.s (T.weight p.x.s p.x.r (K.part p.l rest)) q.node rest=-1 by unfold K.oV;rw [if_neg hr0]);clear hr0 hz0;go_wp2_with fail;go_meet
   case rel=>exact ⟨rfl,by rw [O9.out];exact hL⟩
 case rest =>
  obtain ⟨rfl,hL⟩:=hcut;clear hz0;have hrow0:(∀ w' first,lH w b mb rest i p X first w'->w'.cell? ⟨go,rest,none⟩=some (.slice R rn rc)):=λw' first h=>(hp.memo.ext h.grown).cell hrow;have hRI:(∀ w' first,lH w b mb rest i p X first w'->Ints w' R rn row):=λw' first h=>hR.ext (hp.memo.ext h.grown);have aS:=zC (show rn=p.n by rw [hR.1,hrl,<-hp.set.1]);have hr6:rn<=6:=by rw [aS.out];exact nP
  obtain ⟨l0,l1,l2,l3⟩:=hL.cells;have r0:=hrow0 _ _ hL;go_wp2_with fail;go_loopw [40] (λv40 wr=>∃ k:Nat,v40=.int .i64 k/\k<=rn/\lH w b mb rest i p X (K.firsts p.x.nd p.x.l (T.weight p.x.s p.x.r (K.part p.l rest)) q.node (((K.nodes p.x.r p.l).zip row).take k) (K.oV p.x.nd p.x.l p.x.s (T.weight p.x.s p.x.r (K.part p.l rest)) q.node rest)) wr) (λv40 _=>rn - (intOf v40).toNat)
  case atStart=>exact ⟨0,rfl,by omega,hL⟩
  case round =>
   clear l0 l1 l2 l3 r0 hL;obtain ⟨k,rfl,hk,hL⟩:=hrel;have hpr:=hL.pat hp;obtain ⟨l0,l1,l2,l3⟩:=hL.cells;by_cases hlt:k < rn
   ·obtain ⟨adr,tk,hRA,htk,ctk⟩:=(hRI _ _ hL).at_ hlt;obtain ⟨jk,qk,hek,hnk,-,hgn⟩:=hp.elem (k:=k) (by rw [<-aS.out];exact hlt);have HZ:=zC (show ((K.nodes p.x.r p.l).zip row)[k]? = some (qk.node,tk) by rw [List.getElem?_zip_eq_some];exact ⟨hgn,htk⟩);have htb:=hrb tk (zD htk);obtain ⟨k4,k5⟩:=zJ (a:=k) (b:=rn) (by omega);clear htk hgn;rw [hRA];go_wp2_with fail;refine (I8 b mb p k jk qk wr hpr hek).mono ?_;rintro e w5 ⟨rfl,b5⟩;have hL5:=hL.below b5;have xx:∀ g,(X g\/g=w.heap.size + 1 + 1 + 1)->g < w5.heap.size:=λg hg=>by
     rcases hg with hg | hg
     ·exact dO (hX g hg) hL5.grown.size
     ·rw [hg];exact lt_of_block hL5.g10
    clear l0 l1 l2 l3 ctk;go_wp2_with fail;refine (note_any b mb p i j q rest qk.node tk _ w.heap.size (w.heap.size + 1) (w.heap.size + 1 + 1) (w.heap.size + 1 + 1 + 1) w5 (hL5.pat hp) xx hL5.g4 hL5.g7 hL5.g9 hL5.g10 (.inr rfl) he (by omega) hnk hno hwt htb).mono ?_;rintro e w6 hnt;have hL6:=hL5.gm hnt hmb;obtain ⟨rfl,-⟩:=hnt;clear hL5 xx;go_wp2_with fail;go_roundw
    case rel=>exact ⟨k + 1,by go_num,by omega,by rw [K.agA HZ.out];exact hL6⟩
    case measure=>simp [intOf];omega
   ·clear l0 l1 l2 l3;have hkn:k=rn:=by omega
    have hzl:((K.nodes p.x.r p.l).zip row).take k=(K.nodes p.x.r p.l).zip row:=fD (by rw [List.length_zip];have:=hR.1;omega);rw [hzl] at hL;obtain ⟨F,hF⟩:=zB (K.arrives p.x.nd p.x.l p.x.s p.x.r p.l row rest q);have hL:lH w b mb rest i p X F wr:=by rw [hF];exact hL
    have HF:=zC (show K.label p.x.nd p.x.l p.x.s p.x.r p.l row rest i q=K.labelOf p.x.s p.x.r q (K.part p.l (rest + 2 ^ i)) F by unfold K.label;rw [hF]);have hW:lJ w wr b mb p X:=⟨hL.grown,hp.keep (hp.memo.ext hL.grown) (hL.memo.more (λg _ hg=>.inl hg))⟩;obtain ⟨l0,l1,l2,l3⟩:=hL.cells;clear hF hzl hkn;cases hf1:(F == -1);rotate_left
    ·have HX:=zC (show K.labelOf p.x.s p.x.r q (K.part p.l (rest + 2 ^ i)) F=-1 by unfold K.labelOf;rw [if_pos (show F=-1 by simpa using hf1)]);go_wp2_with fail;go_ret;exact ⟨by rw [HF.out,HX.out];rfl,hW⟩
    have Dz:=zC (show ¬ F=-1 by simpa using hf1);have CB:=acj b mb p rest i j q F wr hpr he hrm jU (by rw [HRS.out];omega) hse;unfold Jw at CB;have hok:=K.wW (s:=p.x.s) (r:=p.x.r) (q:=q) (all:=K.part p.l (rest + 2 ^ i)) (arr:=F);obtain ⟨B,hB⟩:=zB (K.begins p.x.s p.x.r q (K.part p.l (rest + 2 ^ i)) F);rw [<-hB] at CB hok;have HL:=zC (show K.labelOf p.x.s p.x.r q (K.part p.l (rest + 2 ^ i)) F=if B.2=true then B.1 + q.service else -1 by unfold K.labelOf;rw [if_neg Dz.out,<-hB]);have aY:=zC hok;obtain ⟨t,ok⟩:=B;clear hB hok;simp only at CB;go_wp2_with fail;refine CB.mono ?_;rintro e w5 ⟨rfl,b5⟩;have hL5:=hL.below b5;have ug:=hW.below b5;have vI:=ug.2;clear l0 l1 l2 l3 CB;obtain ⟨l0,l1,l2,l3⟩:=hL5.cells;cases ok
    ·go_wp2_with fail;go_ret;exact ⟨by rw [HF.out,HL.out];rfl,ug⟩
    ·obtain ⟨-,-,-,t0,t1,t2,t3⟩:=aY.out rfl;have hwrap:IntKind.i64.wrap (t + q.service)=t + q.service:=dh _ (by omega);obtain ⟨c0,c1,c2,c3,c4,c5,c6,c7,c8,c9,c10⟩:=vI.blk.cells;obtain ⟨bP,ad,hA,hB,-,y,e0,e1,e2,e3,-⟩:=he.cells vI;rw [hA] at c9;rw [hB] at c8;obtain ⟨k6,k7⟩:=zJ (a:=i) (b:=p.n) (by omega);obtain ⟨k8,k9⟩:=zJ (a:=j) (b:=p.x.m) (by omega);clear hA hB;go_wp2_with fail;go_quiet (fail);go_wp2_with fail;go_ret;exact ⟨by rw [HF.out,HL.out];rfl,ug.below (below_drewN ai _)⟩
def Rep (n k:Nat):List Value:=List.replicate k (Value.int .i64 (-1)) ++ List.replicate (n - k) (Value.int .i64 0)
theorem acQ {n k:Nat} (h:k<=n):(Rep n k).length=n:=by simp [Rep];omega
theorem akv (n:Nat):intCells (List.replicate n 0)=Rep n 0:=by simp [Rep,intCells]
theorem aku (n:Nat):Rep n n=intCells (List.replicate n (-1)):=by simp [Rep,intCells]
theorem acR {n k c:Nat} (h:k + c<=n):splice (Rep n k) k (List.replicate c (Value.int .i64 (-1)))=Rep n (k + c):=by
 unfold splice Rep;have e1:(List.replicate k (Value.int .i64 (-1)) ++ List.replicate (n - k) (Value.int .i64 0)).take k=List.replicate k (Value.int .i64 (-1)):=by
  rw [List.take_append_of_le_length (by simp)];exact fD (by simp)
 have e2:(List.replicate k (Value.int .i64 (-1)) ++ List.replicate (n - k) (Value.int .i64 0)).drop (k + (List.replicate c (Value.int .i64 (-1))).length)=List.replicate (n - (k + c)) (Value.int .i64 0):=by
  rw [List.length_replicate,List.drop_append,dF (by simp),List.nil_append,List.length_replicate,List.drop_replicate];congr 1;omega
 rw [e1,e2,<-jb,List.replicate_append_replicate]
theorem ai4:∀ n:Fin 7,bits .and .u64 (n.val:Int) 4294967295=n.val:=by decide +kernel
theorem ai5:∀ n:Fin 7,(n.val:Int) / 4294967296=0:=by decide +kernel
theorem ai3 (n:Nat) (hn:n<=6) (w:World) :
  ay 211 #[.int .u64 1,.int .u64 n] w λe w'=>e=.returned (.tuple #[.int .u64 0,.int .u64 n])/\w'=w:=by
 have h1:bits BinOp.and IntKind.u64 1 4294967295=1:=by decide
 have h2:bits BinOp.and IntKind.u64 (n:Int) 4294967295=n:=ai4 ⟨n,by omega⟩;have h3:(n:Int) / 4294967296=0:=ai5 ⟨n,by omega⟩;have h4:bits BinOp.and IntKind.u64 0 4294967295=0:=by decide
 go_enter Tryz.func211,Tryz.ntmps211;go_wp2_with fail;go_ret2
 exact ⟨rfl,rfl⟩
theorem mul_any (n:Nat) (hn:n<=6) (w:World) :
  ay 203 #[.int .u64 1,.int .u64 n] w λe w'=>e=.returned (.tuple #[.int .u64 0,.int .u64 n])/\w'=w:=by
 go_enter Tryz.func203,Tryz.ntmps203;go_wp2_with fail;refine (ai3 n hn w).mono ?_;rintro e w' ⟨rfl,rfl⟩;go_wp2_with fail;go_ret2
 exact ⟨rfl,rfl⟩
theorem akw (g:Nat) (n:Nat) (hn:n<=6) (w:World) (hg:w.heap[g]? = some (.cells #[.int .i64 (-1)] 3 (0,0))) :
  ay 176 #[.slice (some ⟨g,0,none⟩) 1 1,.int .i64 n] w λe w'=>(∃ b,e=.returned (.slice (some ⟨b,0,none⟩) n n)/\w.heap.size<=b/\eU w' b (List.replicate n (-1)))/\af w w':=by
 have hmk:=λw'=>CX n (by omega) w';have h0:IntKind.u64.wrap (n:Int)=(n:Int):=by rw [IntKind.wrap_u64];omega
 go_enter Tryz.func176,Tryz.ntmps176;go_wp2_with fail;refine (mul_any n hn w).mono ?_;rintro e w0 ⟨rfl,rfl⟩;have c1:decide ((9223372036854775807:Int) < (n:Int))=false:=by simp;omega
 have h5:IntKind.i64.wrap (n:Int)=(n:Int):=dh _ (by omega);have hsz:(Tryz.prog.info? 3).map (·.size)=some 1:=by kernel_rfl
 obtain ⟨X0,hX0⟩:=zB (Rep n 0);obtain ⟨X1,hX1⟩:=zB (List.replicate (min 1 n) (Value.int .i64 (-1)));have hl0:X0.length=n:=by rw [hX0];exact acQ (aW n)
 have hl1:X1.length=min 1 n:=by rw [hX1];simp
 have ho1:∀ v ∈ X1,v.oneCell'=true:=by rw [hX1];intro v hv;rw [(List.mem_replicate.1 hv).2];rfl
 rw [akv,<-hX0] at hmk;have hgn:(w0.alloc (.cells X0.toArray 3)).heap[w0.heap.size]? = some (.cells X0.toArray 3 (0,0)):=aA _ _;have hsrc:∀ j v,X1[j]? = some v->(w0.alloc (.cells X0.toArray 3)).cell? ((⟨g,0,none⟩:Addr).add j)=some v:=λj v hv=>by
  have hgl:=lt_of_block hg;have hj:j=0/\v=.int .i64 (-1):=by
   obtain ⟨hj,e⟩:=zE.1 hv;have h1:=hl1;refine ⟨by omega,?_⟩;subst e;simp [hX1]
  obtain ⟨rfl,rfl⟩:=hj;exact ah (aO hg _) 0 _ rfl
 have hb0:af w0 (w0.alloc (.cells X0.toArray 3)):=ai.alloc (zG _) _;have HX0:=zC hX0;have HX1:=zC hX1;have Pj:=zC hl0;have Pm:=zC hl1;have hmn:X1.length=Nat.min 1 n:=hl1;have Pv:=zC hmn;clear hX0 hX1 hl0 hl1 hmn;go_wp2_with (refine wpList_copy_splice rfl (.tmp 31) (.tmp 32) 48 48 rfl 3 Tryz.underlying48 hsz (some ⟨w0.heap.size,0,none⟩) (some ⟨g,0,none⟩) n n 1 1 rfl rfl w0.heap.size 0 X0 3 hgn X1 Pv.out (λ_=>⟨rfl,_,rfl,hsrc⟩) (by rw [Pj.out,Pm.out];omega) ho1 w0.heap.size w0 hb0 (zG _) ?_;intro w2 hg2 hb2);have hk1:min 1 n<=n:=Nat.min_le_right _ _;have FH:=zC (show n=0\/0 < min 1 n by omega);have uu:Hid (w2.heap[w0.heap.size]? = some (.cells (Rep n (min 1 n)).toArray 3 (0,0))):=by
  have h9:=hg2.out;rw [HX0.out,HX1.out,acR (by omega),Nat.zero_add] at h9;exact h9
 have HG1:=zC (show goInt X1.length=.int .i64 ((min 1 n:Nat):Int) by rw [Pm.out];rfl);go_wp2_with fail;go_loopw [8] (λv8 wr=>∃ k:Nat,v8=.int .i64 k/\k<=n/\Hid (n=0\/0 < k)/\Hid (wr.heap[w0.heap.size]? = some (.cells (Rep n k).toArray 3 (0,0)))/\af w0 wr) (λv8 _=>n - (intOf v8).toNat)
 case atStart=>exact ⟨min 1 n,by first | exact HG1.out | (rw [Pm.out]),hk1,FH.out,uu.out,hb2⟩
 case round =>
  clear uu hg2 hb2 hgn hb0 hsrc hmk;obtain ⟨k,rfl,hk,hk0,hrow,hbr⟩:=hrel;by_cases hlt:k < n
  ·have hcf:(n=k)=False:=eq_false (by omega);have k0:(0:Int)<=(k:Int):=by omega
   have k1:(k:Int)<=(n:Int):=by omega
   have hkp:0 < k:=hk0.out.resolve_left (by omega);obtain ⟨c,hc⟩:=zB (min k (n - k));obtain ⟨X2,hX2⟩:=zB (List.replicate c (Value.int .i64 (-1)));have HC:=zC hc;have uO:=zC hX2;have HL2:=zC (show X2.length=c by rw [hX2];simp);have JM:=zC (show ∀ v ∈ X2,v.oneCell'=true by rw [hX2];intro v hv;rw [(List.mem_replicate.1 hv).2];rfl);have hsrc:∀ j v,X2[j]? = some v->wr.cell? ((⟨w0.heap.size,0,none⟩:Addr).add j)=some v:=λj v hv=>by
    obtain ⟨hj,e⟩:=zE.1 hv;have h1:j < c:=by rw [<-HL2.out];exact hj
    subst e;rw [lN];refine ah hrow.out j _ ?_;have hjk:j < k:=by rw [HC.out] at h1;omega
    simp only [uO.out,List.getElem_replicate];unfold Rep;rw [List.getElem?_toArray,nJ (by simp;omega),List.getElem?_replicate,if_pos hjk]
   have hcn:c<=n - k:=by rw [hc];exact Nat.min_le_right _ _
   have hc1:0 < c:=by omega
   clear hc hX2;have HWX:=zC (show IntKind.i64.wrap ((k:Int) + (X2.length:Int))=((k + c:Nat):Int) by rw [HL2.out,dh _ (by omega)];omega);have hbd:af w0 wr.drew:=hbr.drew;have hrowd:wr.drew.heap[w0.heap.size]? = some (.cells (Rep n k).toArray 3 (0,0)):=hrow.out;have aaP:∀ j v,X2[j]? = some v->wr.drew.cell? ((⟨w0.heap.size,0,none⟩:Addr).add j)=some v:=hsrc;go_wp2_with fail
   go_region_held3 (λ_=>True) (trivial)
    (first
     | (refine step_copy_splice rfl (.tmp 41) (.tmp 44) 48 48 rfl 3 Tryz.underlying48 hsz (some ⟨w0.heap.size,k,none⟩) (some ⟨w0.heap.size,0,none⟩) (n - k) (n - k) k n rfl rfl w0.heap.size k (Rep n k) 3 ?_ X2 (by rw [HL2.out];exact HC.out) ?_ (by rw [HL2.out,acQ hk];omega) JM.out w0.heap.size w0 ?_ (zG _) ?_;exact hrowd;exact (λ_=>⟨rfl,_,rfl,aaP⟩);exact hbd;intro w3 hg3 hb3)
     | fail)
   have hrow3:w3.heap[w0.heap.size]? = some (.cells (Rep n (k + c)).toArray 3 (0,0)):=by
    have h9:=hg3.out;rw [uO.out,acR (by omega)] at h9;exact h9
   have HR3:=zC hrow3;clear hrow3 hg3 hrowd hsrc aaP hbd;rw [HWX.out];go_wp2_with fail;go_roundw
   case rel=>exact ⟨k + c,rfl,by omega,(show n=0\/0 < k + c from .inr (by omega)),HR3.out,hb3⟩
   case measure=>simp [intOf];omega
  ·have hkn:k=n:=by omega
   have HR3:=zC (show eU wr w0.heap.size (List.replicate n (-1)) by
    have h9:=hrow.out;rw [hkn,aku] at h9;exact h9)
   clear hkn;go_wp2_with fail;go_ret;exact ⟨⟨_,rfl,zG _,HR3.out⟩,hbr⟩
namespace K
def rowOf (nd:Int) (l:List Ro) (s:S) (r:List Q) (v:ag) (t:List (List Int)) (m:Nat):List Int :=
 (List.range v.length).map λi=>if m.testBit i=true then label nd l s r v ((t[m - 2 ^ i]?).getD []) (m - 2 ^ i) i (req r ((v[i]?).getD 0)) else -1
def table (nd:Int) (l:List Ro) (s:S) (r:List Q) (v:ag):Nat->List (List Int)
 | 0=>[]
 | M + 1=>table nd l s r v M ++ [rowOf nd l s r v (table nd l s r v M) M]
theorem yg (nd:Int) (l:List Ro) (s:S) (r:List Q) (v:ag):∀ M,(table nd l s r v M).length=M
 | 0=>rfl
 | M + 1=>by simp [table,yg nd l s r v M]
theorem al5 {nd:Int} {l:List Ro} {s:S} {r:List Q} {v:ag} {m M:Nat} (h:m<=M) {k:Nat} (hk:k < m):(table nd l s r v M)[k]? = (table nd l s r v m)[k]?:=by
 induction M with
 | zero=>rw [show m=0 by omega]
 | succ M ih =>
  by_cases e:m=M + 1
  ·rw [e]
  ·rw [table,nJ (by rw [yg];omega)];exact ih (by omega)
theorem yf {nd:Int} {l:List Ro} {s:S} {r:List Q} {v:ag} {m M:Nat} (h:m < M):(table nd l s r v M)[m]? = some (rowOf nd l s r v (table nd l s r v m) m):=by
 rw [al5 (m:=m + 1) (by omega) (by omega),table,List.getElem?_append_right (by rw [yg];omega),yg];simp
theorem xW (nd:Int) (l:List Ro) (s:S) (r:List Q) (v:ag) (t:List (List Int)) (m:Nat):(rowOf nd l s r v t m).length=v.length:=by simp [rowOf]
theorem Jg {nd:Int} {l:List Ro} {s:S} {r:List Q} {v:ag} {t:List (List Int)} {m i:Nat} {j:Int} (hi:v[i]? = some j) :
  (rowOf nd l s r v t m)[i]? = some (if m.testBit i=true then label nd l s r v ((t[m - 2 ^ i]?).getD []) (m - 2 ^ i) i (req r j) else -1):=by
 obtain ⟨hk,e⟩:=zE.1 hi;subst e;simp [rowOf,hk]
theorem ait {nd:Int} {l:List Ro} {s:S} {r:List Q} {v row:ag} {rest i:Nat} {q:Q} (hq:0<=q.service):-1<=label nd l s r v row rest i q/\label nd l s r v row rest i q<=1000000:=by
 unfold label labelOf;split
 ·decide
 ·split
  ·rename_i h
   obtain ⟨-,-,-,h1,h2,-,h3⟩:=wW h;omega
  ·decide
theorem Oi {nd:Int} {l:List Ro} {s:S} {r:List Q} {v:ag} {t:List (List Int)} {m:Nat} (hq:∀ i ∈ v,0<=(req r i).service):∀ x ∈ rowOf nd l s r v t m,-1<=x/\x<=1000000:=by
 intro x hx;obtain ⟨i,hi⟩:=List.mem_iff_getElem?.1 hx;have hil:i < v.length:=by
  have:=(zE.1 hi).1;rwa [xW] at this
 rw [Jg (zF hil)] at hi;injection hi with hi;subst hi;split
 ·exact ait (hq _ (List.getElem_mem hil))
 ·decide
def upto (row:ag) (i:Nat):List Int:=row.take i ++ List.replicate (row.length - i) (-1)
theorem amv (row:ag):upto row 0=List.replicate row.length (-1):=by simp [upto]
theorem ams (row:ag):upto row row.length=row:=by simp [upto]
theorem aeh {row:ag} {i:Nat} (h:i<=row.length):(upto row i).length=row.length:=by simp [upto];omega
theorem aei {row:ag} {i:Nat} {x:Int} (h:row[i]? = some x):(upto row i).set i x=upto row (i + 1):=by
 have hi:=(zE.1 h).1;apply List.ext_getElem?;intro k;rw [List.getElem?_set];unfold upto;rw [take_snoc h];by_cases hk:i=k
 ·subst hk;rw [if_pos rfl,if_pos (by simp;omega),nJ (by simp;omega),List.getElem?_append_right (by simp;omega),show i - (row.take i).length=0 by simp;omega];rfl
 ·rw [if_neg hk];rcases Nat.lt_or_gt_of_ne hk with h1 | h1
  ·rw [List.getElem?_append_right (by simp;omega),List.getElem?_append_right (by simp;omega),List.getElem?_replicate,List.getElem?_replicate];simp only [List.length_take,cZ,List.length_singleton];have e1:min i row.length=i:=by omega
   rw [e1];by_cases h2:k < row.length
   ·rw [if_pos (by omega),if_pos (by omega)]
   ·rw [if_neg (by omega),if_neg (by omega)]
  ·rw [nJ (by simp;omega),jb,nJ (by simp;omega)]
theorem amu {row:ag} {i:Nat} (h:row[i]? = some (-1)):upto row i=upto row (i + 1):=by
 rw [<-aei h];have hi:=(zE.1 h).1;apply List.ext_getElem?;intro k;rw [List.getElem?_set];by_cases hk:i=k
 ·subst hk;rw [if_pos rfl,if_pos (by rw [aeh (by omega)];omega)];unfold upto;rw [List.getElem?_append_right (by simp;omega),List.getElem?_replicate,if_pos (by simp;omega)]
 ·rw [if_neg hk]
end K
theorem afp:∀ m:Fin 64,∀ i:Fin 6,m.val.testBit i.val=true->(m.val - 2 ^ i.val) + 2 ^ i.val=m.val/\(m.val - 2 ^ i.val).testBit i.val=false:=by decide +kernel
theorem KH {m i:Nat} (hm:m < 64) (hi:i < 6) (h:m.testBit i=true):(m - 2 ^ i) + 2 ^ i=m/\(m - 2 ^ i).testBit i=false:=afp ⟨m,hm⟩ ⟨i,hi⟩ h
theorem Tryz.info48:(Tryz.prog.info? 48).map (λi=>(i.zero,i.size,i.bytes))=some (some (.slice none 0 0),1,24):=by kernel_rfl
theorem Nv (n:Nat) (hn:n<=1000000) (w:World):(Instr.makeSlice 97 (.int .i64 n) (.int .i64 n)).run Tryz.prog w=.ok (.slice (some ⟨w.heap.size,0,none⟩) n n) (w.alloc (.cells (List.replicate n (Value.slice none 0 0)).toArray 48)):=by
 have h:=run_make_row' (P:=Tryz.prog) 97 48 (.slice none 0 0) 24 Tryz.underlying97 Tryz.info48 rfl .i64 .i64 n (by omega) (by omega) w;rw [UQ] at h;rw [h]
def Af (n N:Nat) (gs:List Nat):List Value:=gs.map (λg=>Value.slice (some ⟨g,0,none⟩) n n) ++ List.replicate (N - gs.length) (Value.slice none 0 0)
theorem VM {n N:Nat} {gs:List Nat} {m g:Nat} (h:gs[m]? = some g):(Af n N gs)[m]? = some (.slice (some ⟨g,0,none⟩) n n):=by
 have hk:=(zE.1 h).1;unfold Af;rw [nJ (by simpa using hk),dG,h];rfl
theorem al3 {n N:Nat} {gs:List Nat} (h:gs.length < N):(Af n N gs)[gs.length]? = some (.slice none 0 0):=by
 unfold Af;rw [List.getElem?_append_right (by simp),List.getElem?_replicate,if_pos (by simp;omega)]
theorem al4 {n N:Nat} {gs:List Nat} (g:Nat) (h:gs.length < N):(Af n N gs).set gs.length (.slice (some ⟨g,0,none⟩) n n)=Af n N (gs ++ [g]):=by
 unfold Af;obtain ⟨d,hd⟩:∃ d,N - gs.length=d + 1:=⟨N - gs.length - 1,by omega⟩;rw [hd,List.set_append_right _ _ (by simp),bu,Nat.sub_self,List.replicate_succ,List.set_cons_zero,eG,jb];simp only [cZ,List.length_singleton,List.map_cons,List.map_nil];rw [show N - (gs.length + 1)=d by omega];rfl
structure jQ (w:World) (mb go:Nat) (p:PS) (N:Nat) (gs:List Nat) (rows:List (List Int)) (wr:World):Prop where
 grown:w.grownBy wr (some mb)
 memo:fZ wr mb p.x.nd p.x.l (λg=>g=go\/g ∈ gs)
 outb:wr.heap[go]? = some (.cells (Af p.n N gs).toArray 48 (0,0))
 len:gs.length=rows.length
 row:∀ (m g:Nat) (row:ag),gs[m]? = some g->rows[m]? = some row->eU wr g row
 new:∀ g ∈ gs,w.heap.size<=g/\g ≠ go
 go:w.heap.size<=go
theorem jQ.lt {w wr:World} {mb go N:Nat} {p:PS} {gs:List Nat} {rows:List (List Int)} (h:jQ w mb go p N gs rows wr):∀ g,(g=go\/g ∈ gs)->g < wr.heap.size:=λg hg=>by
 rcases hg with rfl | hg
 ·exact lt_of_block h.outb
 ·obtain ⟨m,hm⟩:=List.mem_iff_getElem?.1 hg;have hl:m < rows.length:=by rw [<-h.len];exact (zE.1 hm).1
  exact (h.row m g _ hm (zF hl)).lt
theorem eU.ext {w w':World} {g:Nat} {l:ag} (h:eU w g l) (hx:Ext w w'):eU w' g l:=hx.cells _ _ _ _ h
theorem jQ.went {w wr w':World} {b mb go N:Nat} {p:PS} {gs:List Nat} {rows:List (List Int)} (h:jQ w mb go p N gs rows wr) (hw:lJ wr w' b mb p (λg=>g=go\/g ∈ gs)):jQ w mb go p N gs rows w':=by
 have hx:=h.memo.ext hw.1;exact ⟨grow_step h.grown hw.1 (.inl rfl),hw.2.memo,hx.cells _ _ _ _ h.outb,h.len,λm g row h1 h2=>(h.row m g row h1 h2).ext hx,h.new,h.go⟩
theorem jQ.below {w wr w':World} {mb go N:Nat} {p:PS} {gs:List Nat} {rows:List (List Int)} (h:jQ w mb go p N gs rows wr) (hb:af wr w'):jQ w mb go p N gs rows w' :=
 ⟨jg h.grown hb,h.memo.below hb,au hb h.outb,h.len,λm g row h1 h2=>(h.row m g row h1 h2).ext (Ext.below hb),h.new,h.go⟩
theorem jQ.pat {w wr:World} {b mb go N:Nat} {p:PS} {X:Nat->Prop} {gs:List Nat} {rows:List (List Int)} (h:jQ w mb go p N gs rows wr) (hp:dZ w b mb p X):dZ wr b mb p (λg=>g=go\/g ∈ gs) :=
 (hp.more (Y:=λg=>g=go\/g ∈ gs) (λg hg hy=>by
  rcases hy with rfl | hy
  ·have:=h.go;omega
  ·have:=(h.new g hy).1;omega)).keep (hp.memo.ext h.grown) h.memo
theorem jQ.push {w wr w1:World} {mb go N g:Nat} {p:PS} {gs:List Nat} {rows:List (List Int)} {row:ag} (h:jQ w mb go p N gs rows wr) (hb:af wr w1) (hg:wr.heap.size<=g) (hI:eU w1 g row) (hN:gs.length < N) (hmb:mb < w.heap.size) :
  jQ w mb go p N (gs ++ [g]) (rows ++ [row]) (w1.setCell ⟨go,gs.length,none⟩ (.slice (some ⟨g,0,none⟩) p.n p.n)):=by
 have h1:=h.below hb;have hgo:=lt_of_block h.outb;have hne:g ≠ go:=by omega
 have hm:fZ w1 mb p.x.nd p.x.l (λk=>k=go\/k ∈ gs ++ [g]):=(h.memo.more (Y:=λk=>k=go\/k ∈ gs ++ [g]) (λk hk hy=>by
  rcases hy with rfl | hy
  ·exact .inl rfl
  ·rcases dX.1 hy with hy | hy
   ·exact .inr hy
   ·rw [dB.1 hy] at hk;omega)).below hb
 have hgm:go ≠ mb:=by have:=h.go;omega
 refine ⟨⟨h1.grown.os,h1.grown.tape,h1.grown.output,by rw [World.size_setCell];exact h1.grown.size,λk hk hne=>?_⟩,hm.set (.inl rfl) hgm _ _,?_,by simp [h.len],λm k r hm1 hm2=>?_,λk hk=>?_,h.go⟩
 ·exact (iG w1 _ _ k (by have:=h.go;show k ≠ go;omega)).trans (h1.grown.block k hk hne)
 ·have h9:=di h1.outb gs.length (.slice (some ⟨g,0,none⟩) p.n p.n);rw [h9,<-al4 g hN];simp
 ·have hoth:∀ k r,eU w1 k r->k ≠ go->eU (w1.setCell ⟨go,gs.length,none⟩ (.slice (some ⟨g,0,none⟩) p.n p.n)) k r:=λk r h9 hk=>(iG w1 _ _ k (by show k ≠ go;exact hk)).trans h9;by_cases hml:m < gs.length
  ·rw [nJ hml] at hm1;rw [nJ (by rw [<-h.len];exact hml)] at hm2;exact hoth _ _ (h1.row m k r hm1 hm2) (h.new k (zD hm1)).2
  ·have hl:=(zE.1 hm1).1;simp at hl;have e:m=gs.length:=by omega
   subst e;rw [List.getElem?_append_right (zG _),Nat.sub_self] at hm1;rw [List.getElem?_append_right (by rw [h.len];omega),h.len,Nat.sub_self] at hm2;injection hm1 with hm1;injection hm2 with hm2;subst hm1 hm2;exact hoth _ _ hI hne
 ·rcases dX.1 hk with hk | hk
  ·exact h.new k hk
  ·rw [dB.1 hk];exact ⟨aN h.grown.size hg,hne⟩
theorem jQ.store {w wr:World} {mb go N g i:Nat} {p:PS} {gs:List Nat} {rows:List (List Int)} {row:ag} (x:Int) (h:jQ w mb go p N (gs ++ [g]) (rows ++ [row]) wr) (hg:g ∉ gs) (hmb:mb < w.heap.size) :
  jQ w mb go p N (gs ++ [g]) (rows ++ [row.set i x]) (wr.setCell ⟨g,i,none⟩ (.int .i64 x)):=by
 have hgn:=h.new g (by simp);have hlen:gs.length=rows.length:=by have:=h.len;simpa using this
 have hoth:∀ k r,eU wr k r->k ≠ g->eU (wr.setCell ⟨g,i,none⟩ (.int .i64 x)) k r:=λk r h9 hk=>(iG wr _ _ k (by show k ≠ g;exact hk)).trans h9;refine ⟨⟨h.grown.os,h.grown.tape,h.grown.output,by rw [World.size_setCell];exact h.grown.size,λk hk hne=>?_⟩,h.memo.set (.inr (by simp)) (by omega) _ _,?_,by simpa using hlen,λm k r hm1 hm2=>?_,h.new,h.go⟩
 ·exact (iG wr _ _ k (by show k ≠ g;omega)).trans (h.grown.block k hk hne)
 ·exact (iG wr _ _ go (by show go ≠ g;exact λe=>hgn.2 e.symm)).trans h.outb
 ·by_cases hml:m < gs.length
  ·have aas:=hm1;rw [nJ hml] at aas;rw [nJ (by rw [<-hlen];exact hml)] at hm2;refine hoth _ _ (h.row m k r hm1 (by rw [nJ (by rw [<-hlen];exact hml)];exact hm2)) (λe=>hg (by rw [<-e];exact zD aas))
  ·have hl:=(zE.1 hm1).1;simp at hl;have e:m=gs.length:=by omega
   subst e;rw [List.getElem?_append_right (zG _),Nat.sub_self] at hm1;rw [List.getElem?_append_right (by rw [hlen];omega),hlen,Nat.sub_self] at hm2;injection hm1 with hm1;injection hm2 with hm2;subst hm1 hm2;exact (h.row gs.length g row (by rw [List.getElem?_append_right (zG _),Nat.sub_self];rfl) (by rw [hlen,List.getElem?_append_right (zG _),Nat.sub_self];rfl)).set i x
def aeR (w w':World) (mb:Nat) (p:PS) (N:Nat) (rows:List (List Int)) (e:Ending):Prop :=
 ∃ go gs,e=.returned (.slice (some ⟨go,0,none⟩) N N)/\jQ w mb go p N gs rows w'
theorem aiw (b mb:Nat) (p:PS) (N:Nat) (w:World) {X:Nat->Prop} (hp:dZ w b mb p X) (hN:N=2 ^ p.n) :
  ay 129 #[.pointer (some ⟨b,0,none⟩)] w λe w'=>aeR w w' mb p N (K.table p.x.nd p.x.l p.x.s p.x.r p.l N) e:=by
 obtain ⟨c0,c1,c2,c3,c4,c5,c6,c7,c8,c9,c10⟩:=hp.blk.cells;obtain ⟨hne,hck,hdp,hrq,dP,hgo⟩:=K.jl hp.ok;have hset:=hp.set;have bM:=zC hset.1;have nP:p.n<=6:=by rw [hset.1];exact dP
 have GY:N<=64:=by rw [hN];exact Nat.pow_le_pow_right (by omega) nP
 have hw1:IntKind.i64.wrap ((2:Int) ^ p.n)=(N:Int):=by rw [sG (by omega),hN];simp
 have hw2:wrap64 ((2:Int) ^ p.n)=(N:Int):=by rw [<-IntWalk.i64_left];exact hw1
 have hmk:=λw'=>Nv N (by omega) w';have hmb:=hp.memo.lt;have HN:=zC hN;obtain ⟨go,Tz⟩:=zB w.heap.size;have MV:∀ i ∈ p.l,0<=(K.req p.x.r i).service:=λi hi=>by
  obtain ⟨k,hk⟩:=List.mem_iff_getElem?.1 hi;have hkn:k < p.n:=by rw [hset.1];exact (zE.1 hk).1
  obtain ⟨j,q,hel,-,hse,-⟩:=hp.elem hkn;have h1:=hel.set;rw [hk] at h1;injection h1 with h1;rw [h1,K.lZ hel.req];exact hse.1
 have aeE:=zC MV;have uu:jQ w mb go p N [] [] (w.alloc (.cells (List.replicate N (Value.slice none 0 0)).toArray 48)):=by
  have hb:af w (w.alloc (.cells (List.replicate N (Value.slice none 0 0)).toArray 48)):=ai.alloc (zG _) _;exact ⟨jg (qy w _) hb,(hp.memo.more (Y:=λg=>g=go\/g ∈ []) (λg hg hy=>by simp at hy;omega)).below hb,by rw [Tz];exact aA _ _,rfl,λm g row h1 _=>by simp at h1,λg hg=>by simp at hg,by omega⟩
 have qU:=zC Tz;clear hne hck hdp hrq dP hgo MV hN Tz;go_enter Tryz.func129,Tryz.ntmps129;go_wp2_with fail;rw [<-qU.out];go_loopw [17] (λv17 wr=>∃ (M:Nat) (gs:List Nat),v17=.int .i64 M/\M<=N/\jQ w mb go p N gs (K.table p.x.nd p.x.l p.x.s p.x.r p.l M) wr) (λv17 _=>N - (intOf v17).toNat)
 case atStart=>exact ⟨0,[],rfl,by omega,uu⟩
 case round =>
  clear uu c0 c1 c2 c3 c4 c5 c6 c7 c8 c9 c10 hmk hw1 hw2;obtain ⟨M,gs,rfl,hM,hT⟩:=hrel;have hgl:gs.length=M:=by rw [hT.len,K.yg]
  by_cases hlt:M < N
  ·have yA:=zC hgl;obtain ⟨k0,k1⟩:=zJ (a:=M) (b:=N) (by omega);have ha:af wr (wr.alloc (.cells #[.int .i64 (-1)] 3)):=ai.alloc (zG _) _;have hsz:=ha.size;clear hgl;go_wp2_with fail;refine (akw wr.heap.size p.n nP _ (aA wr (.cells #[.int .i64 (-1)] 3))).mono ?_;rintro e w2 ⟨⟨g1,rfl,hg1,hI1⟩,hb2⟩;have hbw:=bel ha hb2;have hT2:=hT.below hbw;have f1:w2.cell? ⟨go,M,none⟩=some (.slice none 0 0):=by
    have h9:=al3 (n:=p.n) (N:=N) (gs:=gs) (by rw [yA.out];exact hlt);rw [yA.out] at h9;exact ah hT2.outb M _ (by simpa using h9)
   have f2:=b_ hT2.outb M;have ng:=hT.push hbw (aN hsz hg1) hI1 (by rw [yA.out];exact hlt) hmb;rw [yA.out] at ng;have ahu:g1 ∉ gs:=λhg=>by have:=hT.lt g1 (.inr hg);omega
   obtain ⟨row,hrow⟩:=zB (K.rowOf p.x.nd p.x.l p.x.s p.x.r p.l (K.table p.x.nd p.x.l p.x.s p.x.r p.l M) M);have WR:=zC hrow;have hrl:row.length=p.n:=by rw [hrow,K.xW,bM.out]
   have sN:=zC hrl;have ng:jQ w mb go p N (gs ++ [g1]) (K.table p.x.nd p.x.l p.x.s p.x.r p.l M ++ [K.upto row 0]) (w2.setCell ⟨go,M,none⟩ (.slice (some ⟨g1,0,none⟩) p.n p.n)):=by rw [K.amv,hrl];exact ng
   clear hrow hrl hT2 hI1 ha hsz hg1;go_wp2_with fail;clear f1 f2;obtain ⟨w3,hw3⟩:=zB (w2.setCell ⟨go,M,none⟩ (.slice (some ⟨g1,0,none⟩) p.n p.n));rw [<-hw3] at ng ⊢;clear hw3;go_loopw [27] (λv27 wr=>∃ i:Nat,v27=.int .i64 i/\i<=p.n/\jQ w mb go p N (gs ++ [g1]) (K.table p.x.nd p.x.l p.x.s p.x.r p.l M ++ [K.upto row i]) wr) (λv27 _=>p.n - (intOf v27).toNat)
   case atStart=>exact ⟨0,rfl,by omega,ng⟩
   case round =>
    clear ng;obtain ⟨i,rfl,hi,BP⟩:=hrel;by_cases uo:i < p.n
    ·obtain ⟨j,q,hel,hno,hse,-⟩:=hp.elem uo;obtain ⟨k2,k3⟩:=zJ (a:=i) (b:=p.n) (by omega);have jU:=K.Jg (nd:=p.x.nd) (l:=p.x.l) (s:=p.x.s) (r:=p.x.r) (t:=K.table p.x.nd p.x.l p.x.s p.x.r p.l M) (m:=M) hel.set;rw [<-WR.out,K.lZ hel.req] at jU;cases hbit:M.testBit i
     ·have hb1:bits BinOp.and IntKind.i64 ((M:Int) / 2 ^ i) 1=0:=by rw [oP (by omega) (by omega),hbit];rfl
      rw [hbit] at jU;have HU:=zC (show K.upto row i=K.upto row (i + 1) from K.amu (by simpa using jU));clear hbit jU;go_wp2_with fail;go_roundw
      case rel=>exact ⟨i + 1,by go_num,by omega,by rw [<-HU.out];exact BP⟩
      case measure=>simp [intOf];omega
     ·have hb1:bits BinOp.and IntKind.i64 ((M:Int) / 2 ^ i) 1=1:=by rw [oP (by omega) (by omega),hbit];rfl
      rw [hbit,if_pos rfl] at jU;obtain ⟨hre,hrb⟩:=KH (by omega) (by omega) hbit;have hpw:=Nat.two_pow_pos i;obtain ⟨rest,hrest⟩:=zB (M - 2 ^ i);rw [<-hrest] at jU hre hrb;have Iq:rest < M:=by omega
      obtain ⟨rr,hrr⟩:∃ rr,(K.table p.x.nd p.x.l p.x.s p.x.r p.l M)[rest]? = some rr:=⟨_,K.yf Iq⟩;have T_:rr=K.rowOf p.x.nd p.x.l p.x.s p.x.r p.l (K.table p.x.nd p.x.l p.x.s p.x.r p.l rest) rest:=by
       have h9:=K.yf (nd:=p.x.nd) (l:=p.x.l) (s:=p.x.s) (r:=p.x.r) (v:=p.l) Iq;rw [hrr] at h9;injection h9
      rw [hrr,Option.getD_some] at jU;obtain ⟨g0,hg0⟩:∃ g0,gs[rest]? = some g0:=⟨_,zF (by rw [yA.out];exact Iq)⟩;have aaM:rr.length=p.l.length:=by rw [T_,K.xW]
      have ahV:∀ t ∈ rr,-1<=t/\t<=1000000:=by rw [T_];exact K.Oi aeE.out
      obtain ⟨x,hx⟩:=zB (K.label p.x.nd p.x.l p.x.s p.x.r p.l rr rest i q);rw [<-hx] at jU;have HU:=zC (K.aei jU);have hTd:=BP.below (w':=wr.drew) ai.drew;have nS:=hTd.pat hp;have hg0':(gs ++ [g1])[rest]? = some g0:=by rw [nJ (by rw [yA.out];exact Iq)];exact hg0
      have hc0:wr.drew.cell? ⟨go,rest,none⟩=some (.slice (some ⟨g0,0,none⟩) p.n p.n):=ah hTd.outb rest _ (by simpa using VM (n:=p.n) (N:=N) hg0');have hI0:Ints wr.drew (some ⟨g0,0,none⟩) p.n rr:=by
       have h9:=(hTd.row rest g0 rr hg0' (by rw [nJ (by rw [K.yg];exact Iq)];exact hrr)).ints;rw [aaM,<-bM.out] at h9;exact h9
      have hgM:(gs ++ [g1])[M]? = some g1:=by rw [List.getElem?_append_right (by rw [yA.out];omega),yA.out,Nat.sub_self];rfl
      have zi:∀ w' rows,jQ w mb go p N (gs ++ [g1]) rows w'->w'.cell? ⟨go,M,none⟩=some (.slice (some ⟨g1,0,none⟩) p.n p.n):=λw' rows h=>ah h.outb M _ (by simpa using VM (n:=p.n) (N:=N) hgM);have S0:=zi _ _ BP;have aQ:=zi _ _ hTd;have CL:=air b mb p go N N M rest i j q rr (some ⟨g0,0,none⟩) p.n p.n wr.drew nS hTd.lt hel hno hse (by omega) hbit hre hrb hc0 (by omega) hI0 aaM ahV;rw [<-hx] at CL;have Wq:=zC (λ(w5:World) (h5:jQ w mb go p N (gs ++ [g1]) (K.table p.x.nd p.x.l p.x.s p.x.r p.l M ++ [K.upto row i]) w5)=>h5.row M g1 (K.upto row i) hgM (by rw [List.getElem?_append_right (by rw [K.yg];omega),K.yg,Nat.sub_self];rfl));have hil:i < (K.upto row i).length:=by rw [K.aeh (by rw [sN.out];omega),sN.out];exact uo
      obtain ⟨y,hy⟩:∃ y,(K.upto row i)[i]? = some y:=⟨_,zF hil⟩;have HYI:=zC hy;clear hy hil;clear hbit hrr T_ hx jU hrest hg0 hg0' hgM hc0 hI0 hre hrb;go_wp2_with fail
      go_region_held3 (λw'=>w'.cell? ⟨go,M,none⟩=some (.slice (some ⟨g1,0,none⟩) p.n p.n))
       (first | assumption | exact S0 | exact aQ)
       (first
        | (go_at_call 177;refine CL.mono ?_;rintro e w5 ⟨rfl,ug⟩;have fM:=hTd.went ug;have S5:=zi _ _ fM;have f1:=(Wq.out w5 fM).cell HYI.out;have f2:=(Wq.out w5 fM).free i;have jh:=fM.store (i:=i) x ahu hmb;have S6:=zi _ _ jh)
        | fail)
      rw [HU.out] at jh;clear S0 aQ S5 S6 f1 f2 fM hTd BP CL zi nS;go_wp2_with fail;go_roundw
      case rel=>exact ⟨i + 1,by go_num,by omega,jh⟩
      case measure=>simp [intOf];omega
    ·have hpi:i=p.n:=by omega
     have vk:jQ w mb go p N (gs ++ [g1]) (K.table p.x.nd p.x.l p.x.s p.x.r p.l (M + 1)) wr:=by
      rw [hpi,<-sN.out,K.ams] at BP;rw [K.table,<-WR.out];exact BP
     clear BP hpi;go_wp2_with fail;go_roundw
     case rel=>exact ⟨M + 1,gs ++ [g1],by go_num,by omega,vk⟩
     case measure=>simp [intOf];omega
  ·have Pv:=zC (show M=N by omega);rw [Pv.out] at hT;go_wp2_with fail;go_ret;exact ⟨go,gs,rfl,hT⟩
structure Lb where
 set:Int
 last:Int
 time:Int
def mM (x:Lb):List Value:=[.int .i64 x.set,.int .i64 x.last,.int .i64 x.time]
abbrev gY (w:World) (A:aj) (n:Nat) (l:List Lb):Prop:=aX mM 3 w A n l
theorem gY.at_ {w:World} {A:aj} {n k:Nat} {l:List Lb} (h:gY w A n l) (hk:k < n) :
  ∃ ad x,A=some ad/\l[k]? = some x/\w.cell? (ad.add (k * 3))=some (.int .i64 x.set)/\w.cell? ⟨(ad.add (k * 3)).block,(ad.add (k * 3)).off + 1,none⟩=some (.int .i64 x.last) /\
   w.cell? ⟨(ad.add (k * 3)).block,(ad.add (k * 3)).off + 2,none⟩=some (.int .i64 x.time):=by
 obtain ⟨ad,x,hA,hl,hc⟩:=aX.get (f:=mM) (s:=3) (λ_=>rfl) h hk;refine ⟨ad,x,hA,hl,hc 0 _ (by omega) rfl,?_,?_⟩ <;> rw [<-pO _ _ _ (by omega)]
 ·exact hc 1 _ (by omega) rfl
 ·exact hc 2 _ (by omega) rfl
theorem Tryz.info167:(Tryz.prog.info? 167).map (λi=>(i.zero,i.size,i.bytes))=some (some (.agg #[.int .i64 0,.int .i64 0,.int .i64 0]),3,24):=by kernel_rfl
theorem XG {ops:Array Oper} {rest:List Oper} {o:Oper} {a:Act} {Q:Exit->Act->World->Prop} {w:World} (hgd:o.guard=none) (s x:Operand)
  (ho:o.op=.call { callee:=.builtin .append,args:=#[s,x],argTypes:=#[88,88] })
  (base:Nat) (v:Value) (n:Nat) (l:List Lb) (hs:a.eval s=v) (hown:w.ownsRow base 167 3 v n (l.flatMap mM)) (g:Nat) (p q r:Int) (hx:a.eval x=.slice (some ⟨g,0,none⟩) 1 1)
  (hg:w.heap[g]? = some (.cells #[.int .i64 p,.int .i64 q,.int .i64 r] 167 (0,0))) (hn:n<=1000000) (hbase:base<=w.heap.size)
  (h:∀ v' w',w'.ownsRow base 167 3 v' (n + 1) ((l ++ [(⟨p,q,r⟩:Lb)]).flatMap mM)->w.grownBy w' v.ownBlock->(v'.ownBlock=v.ownBlock\/v'.ownBlock=some w.heap.size)->wpList Tryz.prog ops Q rest (a.put o.dst v') w') :
  wpList Tryz.prog ops Q (o :: rest) a w:=by
 obtain ⟨i0,hi,hz0,hz1,hz2⟩:=info_parts Tryz.info167;refine wpList_append_own_at w hgd s x 88 ho base 167 i0 (.agg #[.int .i64 0,.int .i64 0,.int .i64 0]) 3 24 Tryz.underlying88 hi hz0 hz1 hz2 rfl (by decide) v n (l.flatMap mM) hs hown ⟨g,0,none⟩ 1 1 [.int .i64 p,.int .i64 q,.int .i64 r] hx rfl ?_ ?_ ?_ ?_ hbase ?_
 ·intro j u hu;rw [lN];exact ah hg j u (by simpa using hu)
 ·intro u hu;simp at hu;rcases hu with rfl | rfl | rfl <;> rfl
 ·simp only [maxLen];omega
 ·omega
 ·intro v' w' h2 h3 _ h5;exact h v' w' (by rw [List.flatMap_append];exact h2) h3 h5
namespace K
def gI (m:Nat) (row:ag):Nat->List Lb
 | 0=>[]
 | i + 1=>gI m row i ++ if m.testBit i=true then [⟨m,i,(row[i]?).getD (-1)⟩] else []
def jX (n:Nat) (t:List (List Int)):Nat->List Lb
 | 0=>[]
 | M + 1=>jX n t M ++ gI M ((t[M]?).getD []) n
def bG (nd:Int) (l:List Ro) (s:S) (r:List Q) (v:ag):List Lb:=if bF nd l s r v=true then jX v.length (table nd l s r v (2 ^ v.length)) (2 ^ v.length) else []
theorem Vu (m:Nat) (row:ag):∀ i,(gI m row i).length<=i
 | 0=>zG _
 | i + 1=>by have:=Vu m row i;simp only [gI,cZ];split <;> simp <;> omega
theorem Oy (n:Nat) (t:List (List Int)):∀ M,(jX n t M).length<=M * n
 | 0=>by simp [jX]
 | M + 1=>by
  have h1:=Oy n t M;have h2:=Vu M ((t[M]?).getD []) n;simp only [jX,cZ,Nat.add_mul];omega
end K
def Xd (w w':World) (l:List Lb) (e:Ending):Prop:=(∃ A n c,e=.returned (.slice A n c)/\gY w' A n l)/\af w w'
theorem gz {w:World} {base:Nat} {e:TypeId} {size n:Nat} {v:Value} {xs:List Value} (h:w.ownsRow base e size v n xs):∀ g,v.ownBlock=some g->base<=g/\g < w.heap.size:=by
 obtain ⟨-,-,-,-,h3⟩:=fP h;exact h3
def Xe (w w':World) (l:List Lb) (e:Ending):Prop:=(∃ A n c,e=.returned (.slice A n c)/\gY w' A n l/\∀ ad,A=some ad->w.heap.size<=ad.block)/\af w w'
theorem aa' (x:C) (V:aj) (vn vc:Nat) (v:ag) (w:World) (hx:At w x) (hV:Ints w V vn v) (jV:vn<=vc) (hvn:vn<=1000000000) :
  ay 78 #[.agg #[.int .i64 x.nd,.slice x.A x.n x.c],fG x.s,.slice x.B x.m x.d,.slice V vn vc] w λe w'=>Xe w w' (K.bG x.nd x.l x.s x.r v) e:=by
 obtain ⟨w0,hw0⟩:=zB ((w.alloc (.cells #[.int .i64 x.nd,.slice x.A x.n x.c] 24)).alloc (.cells #[.int .i64 x.s.day,.int .i64 x.s.ax,.int .i64 x.s.start,.int .i64 x.s.end_,.int .i64 x.s.aU,.slice x.s.A x.s.n x.s.c] 63));have b0:af w w0:=by rw [hw0];exact bel (ai.alloc (zG _) _) (ai.alloc (zG _) _)
 go_enter Tryz.func78,Tryz.ntmps78;go_wp2_with fail;rw [<-hw0];clear hw0;refine (Vl x V vn vc v _ (hx.below b0) (hV.below b0) jV hvn).mono ?_;rintro e w1 ⟨hret,b1⟩;have hb:=bel b0 b1;have hsz:=b0.size;rcases hret with ⟨hok,rfl⟩ | ⟨b,mb,rfl,hbb,hbm,hP⟩
 ·have HX:=zC (show K.bG x.nd x.l x.s x.r v=[] by simp [K.bG,hok]);clear hok;go_wp2_with fail;go_ret;exact ⟨⟨none,0,0,rfl,by rw [HX.out];exact ⟨rfl,rfl,λh=>absurd h (by omega)⟩,λad e=>(nomatch e)⟩,hb⟩
 ·have hp:=hP (λ_=>False);clear hP;have Rn:=hV.1;have hv6:=(K.jl hp.ok).2.2.2.2.1;dsimp only at hv6;obtain ⟨N,hN⟩:∃ N,N=2 ^ vn:=⟨_,rfl⟩;have GY:N<=64:=by rw [hN];exact Nat.pow_le_pow_right (by omega) (show vn<=6 by omega)
  have HX:=zC (show K.bG x.nd x.l x.s x.r v=K.jX vn (K.table x.nd x.l x.s x.r v N) N by unfold K.bG;rw [if_pos hp.ok,hN,Rn]);have ah8:vn<=6:=by omega
  have bM:=zC Rn;have CL:=aiw b mb ⟨x,V,vn,vc,v⟩ N w1 hp hN;clear hN Rn hv6;go_wp2_with fail;refine CL.mono ?_;rintro e w2 ⟨go,gs,rfl,hT⟩;have hb2:af w w2:=dY hb hT.grown (λg e=>by injection e with e;omega);have hTl:∀ M,M < N->∃ g row,gs[M]? = some g/\(K.table x.nd x.l x.s x.r v N)[M]? = some row/\row.length=vn/\eU w2 g row/\w2.cell? ⟨go,M,none⟩=some (.slice (some ⟨g,0,none⟩) vn vn):=λM hM=>by
   have hgl:gs.length=N:=by rw [hT.len,K.yg]
   obtain ⟨g,hg⟩:∃ g,gs[M]? = some g:=⟨_,zF (by omega)⟩;have hr:=K.yf (nd:=x.nd) (l:=x.l) (s:=x.s) (r:=x.r) (v:=v) hM;exact ⟨g,_,hg,hr,by rw [K.xW,bM.out],hT.row M g _ hg hr,ah hT.outb M _ (by simpa using VM (n:=vn) (N:=N) hg)⟩
  clear hT CL hp b1 b0;go_wp2_with fail;go_loopw [11,29] (λv11 v29 wr=>∃ M:Nat,v29=.int .i64 M/\M<=N/\wr.ownsRow w2.heap.size 167 3 v11 (K.jX vn (K.table x.nd x.l x.s x.r v N) M).length ((K.jX vn (K.table x.nd x.l x.s x.r v N) M).flatMap mM)/\af w2 wr) (λ_ v29 _=>N - (intOf v29).toNat)
  case atStart=>exact ⟨0,rfl,by omega,kF _ _ _ _,ai⟩
  case round =>
   obtain ⟨M,rfl,hM,hown,hbr⟩:=hrel;by_cases hlt:M < N
   ·obtain ⟨g,row,-,htr,hrl,hI,hc⟩:=hTl M hlt;have HM1:=zC (show K.jX vn (K.table x.nd x.l x.s x.r v N) (M + 1)=K.jX vn (K.table x.nd x.l x.s x.r v N) M ++ K.gI M row vn by rw [K.jX,htr];rfl);have hlen:=K.Oy vn (K.table x.nd x.l x.s x.r v N) M;have hlen2:M * vn<=64 * 6:=Nat.mul_le_mul (by omega) ah8;have hcr:=(hbr.cell (cell_lt hc)).trans hc;obtain ⟨k0,k1⟩:=zJ (a:=M) (b:=N) (by omega);have sN:=zC hrl;obtain ⟨L0,hL0⟩:=zB (K.jX vn (K.table x.nd x.l x.s x.r v N) M);rw [<-hL0] at hown hlen;have Pj:=zC hL0;clear htr hc hrl hL0;go_wp2_with fail;go_loopw [11,36] (λv11 v36 wi=>∃ i:Nat,v36=.int .i64 i/\i<=vn/\wi.ownsRow w2.heap.size 167 3 v11 (L0 ++ K.gI M row i).length ((L0 ++ K.gI M row i).flatMap mM)/\af w2 wi) (λ_ v36 _=>vn - (intOf v36).toNat)
    case atStart=>exact ⟨0,rfl,by omega,by rw [K.gI,List.append_nil];exact hown,hbr⟩
    case round =>
     clear hown hcr hbr;obtain ⟨i,rfl,hi,hown,hbr⟩:=hrel;by_cases uo:i < vn
     ·obtain ⟨y,hy⟩:∃ y,row[i]? = some y:=⟨_,zF (by rw [sN.out];exact uo)⟩;have cy:=(hbr.cell (cell_lt (hI.cell hy))).trans (hI.cell hy);obtain ⟨k2,k3⟩:=zJ (a:=i) (b:=vn) (by omega);have hlr:=K.Vu M row i;cases hbit:M.testBit i
      ·have hb1:bits BinOp.and IntKind.i64 ((M:Int) / 2 ^ i) 1=0:=by rw [oP (by omega) (by omega),hbit];rfl
       have HU:=zC (show K.gI M row (i + 1)=K.gI M row i by rw [K.gI,hbit];simp);clear hbit hy;go_wp2_with fail;go_roundw
       case rel=>exact ⟨i + 1,by go_num,by omega,by rw [HU.out];exact hown,hbr⟩
       case measure=>simp [intOf];omega
      ·have hb1:bits BinOp.and IntKind.i64 ((M:Int) / 2 ^ i) 1=1:=by rw [oP (by omega) (by omega),hbit];rfl
       have HU:=zC (show L0 ++ K.gI M row (i + 1)=(L0 ++ K.gI M row i) ++ [⟨M,i,y⟩] by rw [K.gI,hbit,if_pos rfl,hy,Option.getD_some,jb]);have ha:af wr (wr.alloc (.cells #[.int .i64 (M:Int),.int .i64 (i:Int),.int .i64 y] 167)):=ai.alloc (zG _) _;have hown2:=own_below hown ha;have hs2:w2.heap.size<=(wr.alloc (.cells #[.int .i64 (M:Int),.int .i64 (i:Int),.int .i64 y] 167)).heap.size:=aN hbr.size ha.size;have hln:(L0 ++ K.gI M row i).length<=1000000:=by rw [cZ];omega
       clear hbit hy;go_wp2_with (at_builtin;refine XG rfl (.tmp 46) (.tmp 51) rfl w2.heap.size u11 (L0 ++ K.gI M row i).length (L0 ++ K.gI M row i) rfl hown2 wr.heap.size M i y rfl (bU _ _ _ rfl) hln hs2 ?_;intro tv' w6 hown6 hgrow6 gy);have b6:=dY (bel hbr ha) hgrow6 (λg e=>(hown.lt g e).1);have HS:=zC (show (L0 ++ K.gI M row i).length + 1=(L0 ++ K.gI M row (i + 1)).length by rw [HU.out,cZ (bs:=[_])];rfl);rw [<-HU.out,HS.out] at hown6;clear hgrow6 gy hown2 hown;go_roundw
       case rel=>exact ⟨i + 1,by go_num,by omega,hown6,b6⟩
       case measure=>simp [intOf];omega
     ·have hin:i=vn:=by omega
      rw [hin] at hown;have Po:=zC HM1.out;rw [Pj.out,<-Po.out] at hown;clear hin;go_wp2_with fail;go_roundw
      case rel=>exact ⟨M + 1,by go_num,by omega,hown,hbr⟩
      case measure=>simp [intOf];omega
   ·have Zu:M=N:=by omega
    rw [Zu] at hown;have Ih:=gz hown;obtain ⟨A9,c9,rfl,jL,-⟩:=fP hown;have TR:∀ ad,A9=some ad->w.heap.size<=ad.block:=λad e=>(by have h1:=(Ih ad.block (by rw [e];rfl)).1;have h2:=hb2.size;omega);clear Ih;clear Zu;go_wp2_with fail;go_ret;exact ⟨⟨_,_,_,rfl,by rw [HX.out];exact ⟨rfl,jL⟩,TR⟩,bel hb2 hbr⟩
theorem aiu (x:C) (V:aj) (vn vc:Nat) (v:ag) (w:World) (hx:At w x) (hV:Ints w V vn v) (jV:vn<=vc) (hvn:vn<=1000000000) :
  ay 78 #[.agg #[.int .i64 x.nd,.slice x.A x.n x.c],fG x.s,.slice x.B x.m x.d,.slice V vn vc] w λe w'=>Xd w w' (K.bG x.nd x.l x.s x.r v) e :=
 (aa' x V vn vc v w hx hV jV hvn).mono λ_ _ ⟨⟨A,n,c,h1,h2,_⟩,hb⟩=>⟨⟨A,n,c,h1,h2⟩,hb⟩
theorem Lb.eq_iff {a b:Lb}:a=b ↔ a.set=b.set/\a.last=b.last/\a.time=b.time:=by
 cases a;cases b;simp
instance:DecidableEq Lb:=λ_ _=>decidable_of_iff _ Lb.eq_iff.symm
theorem aec {la lb:List Lb} {k:Nat} {x y:Lb} (hx:la[k]? = some x) (hy:lb[k]? = some y) (h:la.take k=lb.take k):la.take (k + 1)=lb.take (k + 1) ↔ x=y:=by
 rw [take_snoc hx,take_snoc hy,h];simp
theorem agb (A B:aj) (n m c d:Nat) (la lb:List Lb) (w:World) (hla:gY w A n la) (hlb:gY w B m lb) (hn:n<=1000000000) (hm:m<=1000000000) :
  ay 138 #[.slice A n c,.slice B m d] w (bg w (decide (la=lb))):=by
 by_cases hnm:n=m
 ·obtain rfl:=hnm;go_enter Tryz.func138,Tryz.ntmps138;go_wp2_with fail;go_loopw [13] (λvi wr=>∃ k:Nat,vi=.int .i64 k/\k<=n/\Hid (la.take k=lb.take k)/\af w wr) (λvi _=>n - (intOf vi).toNat)
  case atStart=>exact ⟨0,rfl,by omega,rfl,ai⟩
  case round =>
   obtain ⟨k,rfl,hk,hr,hb⟩:=hrel;by_cases hlt:k < n
   ·obtain ⟨ad,o,rfl,hg,c0,c1,c2⟩:=gY.at_ (aX.below hla hb) hlt;obtain ⟨lM,o2,rfl,hg2,d0,d1,d2⟩:=gY.at_ (aX.below hlb hb) hlt;have HN:=zC (aec hg hg2 hr.out);obtain ⟨k0,k1⟩:=zJ (a:=k) (b:=n) (by omega);clear hg hg2;cases e1:(o.set == o2.set)
    ·have HX:=zC (λh=>(show ¬ o=o2 from λe=>by rw [e] at e1;simp at e1) (HN.out.1 h));go_wp2_with fail;go_quiet (fail);go_wp2_with fail;go_ret;exact ⟨aK (Eq.symm (zI (λh=>HX.out (by rw [h])))),below_drewN hb _⟩
    cases e2:(o.last == o2.last)
    ·have HX:=zC (λh=>(show ¬ o=o2 from λe=>by rw [e] at e2;simp at e2) (HN.out.1 h));go_wp2_with fail;go_quiet (fail);go_wp2_with fail;go_ret;exact ⟨aK (Eq.symm (zI (λh=>HX.out (by rw [h])))),below_drewN hb _⟩
    cases e3:(o.time == o2.time)
    ·have HX:=zC (λh=>(show ¬ o=o2 from λe=>by rw [e] at e3;simp at e3) (HN.out.1 h));go_wp2_with fail;go_quiet (fail);go_wp2_with fail;go_ret;exact ⟨aK (Eq.symm (zI (λh=>HX.out (by rw [h])))),below_drewN hb _⟩
    have HX:=zC (HN.out.2 (Lb.eq_iff.2 ⟨by simpa using e1,by simpa using e2,by simpa using e3⟩));go_wp2_with fail;go_quiet (fail);go_wp2_with fail;go_roundw
    case rel=>exact ⟨k + 1,by go_num,by omega,HX.out,below_drewN hb _⟩
    case measure=>simp [intOf];omega
   ·have HX:=zC (show la=lb by
     have h:=hr.out;rw [fD (by rw [<-hla.1];omega),fD (by rw [<-hlb.1];omega)] at h;exact h)
    go_wp2_with fail;go_ret;exact ⟨aK (Eq.symm (zH HX.out)),hb⟩
 ·have HX:=zC (show ¬ la=lb from λh=>hnm (by rw [hla.1,hlb.1,h]));have q1:(((n:Nat):Int) != ((m:Nat):Int))=true:=by simp;omega
  go_enter Tryz.func138,Tryz.ntmps138;go_wp2_with fail;go_ret;exact ⟨aK (Eq.symm (zI HX.out)),ai⟩
namespace K
def opens (y:Int) (en:Int) (all:Nat) (x:Lb):Bool:=(x.set == (all:Int)) && ((x.time != -1) && ((y != -1) && decide (x.time + y<=en)))
end K
theorem VT (b mb:Nat) (p:PS) (fr:Int) (tn m:Nat) (w:World) {X:Nat->Prop} (hp:dZ w b mb p X) (hX:∀ g,X g->g < w.heap.size) (hm:m < 256) (hfr:0<=fr/\fr < p.x.nd) {d:Int} (hd:d=(tn:Int)) (hto:d < p.x.nd) (hwt:(Lit.int .i64 (T.weight p.x.s p.x.r (K.part p.l m))).wf=true) :
  ay 141 #[.pointer (some ⟨b,0,none⟩),.int .i64 fr,.int .i64 d,.int .i64 m] w λe w'=>Xo w w' b mb p X (K.way p.x.nd p.x.l fr (T.weight p.x.s p.x.r (K.part p.l m)) d) e:=by
 subst hd;exact ael b mb p fr tn m w hp hX hm hfr hto hwt
theorem afu (b mb:Nat) (p:PS) (all:Nat) (x:Lb) (ga gp gs i j:Nat) (q:Q) (w:World) {X:Nat->Prop} (hp:dZ w b mb p X) (hX:∀ g,X g->g < w.heap.size)
  (ha:w.heap[ga]? = some (.cells #[.int .i64 (all:Int)] 3 (0,0))) (hpp:w.heap[gp]? = some (.cells #[.pointer (some ⟨b,0,none⟩)] 162 (0,0))) (hs:bI w gs p.x.s)
  (hel:Elem p i j q) (hxl:x.last=(i:Int)) (hno:0<=q.node/\q.node < p.x.nd) (hall:all < 256) (ht:-1<=x.time/\x.time<=1000000) :
  ay 140 #[.agg #[.int .i64 x.set,.int .i64 x.last,.int .i64 x.time],.pointer (some ⟨ga,0,none⟩),.pointer (some ⟨gp,0,none⟩),.pointer (some ⟨gs,0,none⟩)] w
   λe w'=>e=.returned (.bool (K.opens (K.way p.x.nd p.x.l q.node (T.weight p.x.s p.x.r (K.part p.l all)) p.x.s.ax) p.x.s.end_ all x))/\lJ w w' b mb p X:=by
 obtain ⟨hne,hck,hdp,-⟩:=K.jl hp.ok;obtain ⟨-,⟨d0,d1⟩,st0,st1,tC⟩:=K.tu hck;have dP:=(K.jl hp.ok).2.2.2.2.1;have hwt:(Lit.int .i64 (T.weight p.x.s p.x.r (K.part p.l all))).wf=true:=T.VW (by have:=K.qM p.l all;omega);obtain ⟨dn,hdn⟩:∃ dn:Nat,p.x.s.ax=(dn:Int):=⟨p.x.s.ax.toNat,by omega⟩;obtain ⟨w1,hw1⟩:=zB (w.alloc (.cells #[.int .i64 x.set,.int .i64 (i:Int),.int .i64 x.time] 167));have b1:=aH hw1;have hB:w1.heap[w.heap.size]? = some (.cells #[.int .i64 x.set,.int .i64 (i:Int),.int .i64 x.time] 167 (0,0)):=by rw [hw1];exact aA _ _
 have hp1:=hp.below b1;have hS:∀ w',Ext w1 w'->w'.cell? ⟨gp,0,none⟩=some (.pointer (some ⟨b,0,none⟩))/\w'.cell? ⟨ga,0,none⟩=some (.int .i64 (all:Int))/\w'.cell? ⟨gs,1,none⟩=some (.int .i64 p.x.s.ax)/\w'.cell? ⟨gs,3,none⟩=some (.int .i64 p.x.s.end_)/\w'.cell? ⟨w.heap.size,0,none⟩=some (.int .i64 x.set)/\w'.cell? ⟨w.heap.size,1,none⟩=some (.int .i64 (i:Int))/\w'.cell? ⟨w.heap.size,2,none⟩=some (.int .i64 x.time):=λw' h=>by
  have h2:=(Ext.below b1).trans h;obtain ⟨s0,s1,s2,s3,s4,s5⟩:=hs.cells;exact ⟨h2.cell (ah hpp 0 _ rfl),h2.cell (ah ha 0 _ rfl),h2.cell s1,h2.cell s3,h.cell (ah hB 0 _ rfl),h.cell (ah hB 1 _ rfl),h.cell (ah hB 2 _ rfl)⟩
 have S0:=hS w1 (Ext.refl _);have aQ:=hS w1.drew (Ext.below (dK w1).drew);have CN:=I8 b mb p i j q w1.drew (hp1.below ai.drew) hel;obtain ⟨c0,c1,c2,c3,c4,c5,c6⟩:=S0;rw [hw1] at c0 c1 c2 c3 c4 c5 c6;obtain ⟨y,hy⟩:=zB (K.way p.x.nd p.x.l q.node (T.weight p.x.s p.x.r (K.part p.l all)) p.x.s.ax);have hyb:=K.jY p.x.nd p.x.l q.node (T.weight p.x.s p.x.r (K.part p.l all)) p.x.s.ax;rw [<-hy] at hyb ⊢;have HY:=zC hy;have Dx:=zC hdn;have hW1:=OO hp b1;rw [hxl];clear hy hne hck hdn;go_enter Tryz.func140,Tryz.ntmps140;cases e1:(x.set == (all:Int))
 ·have q1:(x.set != (all:Int))=true:=by simp [bne,e1]
  have HX:=zC (show K.opens y p.x.s.end_ all x=false by simp [K.opens,e1]);clear e1;go_wp2_with fail;go_ret;exact ⟨aK HX.out.symm,by rw [<-hw1];exact hW1⟩
 have q1:(x.set != (all:Int))=false:=by simp [bne,e1]
 cases e2:(x.time == -1);rotate_left
 ·have HX:=zC (show K.opens y p.x.s.end_ all x=false by simp [K.opens,bne,e2]);go_wp2_with fail;go_ret;exact ⟨aK HX.out.symm,by rw [<-hw1];exact hW1⟩
 have HX:=zC (show K.opens y p.x.s.end_ all x=((y != -1) && decide (x.time + y<=p.x.s.end_)) by simp [K.opens,bne,e1,e2]);go_wp2_with fail;rw [<-hw1];clear c0 c1 c2 c3 c4 c5 c6 hw1 e1 e2 q1;have S0:=hS w1 (Ext.refl _)
 go_region_held3 (λw'=>w'.cell? ⟨gp,0,none⟩=some (.pointer (some ⟨b,0,none⟩))/\w'.cell? ⟨ga,0,none⟩=some (.int .i64 (all:Int))/\w'.cell? ⟨gs,1,none⟩=some (.int .i64 p.x.s.ax)/\w'.cell? ⟨gs,3,none⟩=some (.int .i64 p.x.s.end_)/\w'.cell? ⟨w.heap.size,0,none⟩=some (.int .i64 x.set)/\w'.cell? ⟨w.heap.size,1,none⟩=some (.int .i64 (i:Int))/\w'.cell? ⟨w.heap.size,2,none⟩=some (.int .i64 x.time))
  (first | assumption | exact S0 | exact aQ)
  (first
   | (go_at_call 142;refine CN.mono ?_;rintro e w2 ⟨rfl,b2⟩;have hd2:af w1 w2:=bel (w1:=w1.drew) ai.drew b2;have hp2:=hp1.below hd2;have S1:=hS w2 (Ext.below hd2))
   | (go_at_call 141;refine (VT b mb p q.node dn all w2 hp2 (λg hg=>dO (hX g hg) (bel b1 hd2).size) hall hno Dx.out hdp hwt).mono ?_;rintro e w3 ⟨rfl,hW⟩;have hx3:=(Ext.below hd2).trans (hW.ext hp2);have S2:=hS w3 hx3)
   | fail)
 rw [<-HY.out];have hW3:=(hW1.below hd2).trans hW;obtain ⟨c0,c1,c2,c3,c4,c5,c6⟩:=S2;have hwrap:IntKind.i64.wrap (x.time + y)=x.time + y:=dh _ (by omega);clear S0 aQ S1 hS CN;cases e3:(y == -1)
 ·have q3:(y != -1)=true:=by simp [bne,e3]
  rw [q3] at HX;go_wp2_with fail;go_ret;exact ⟨aK (by rw [HX.out];rfl),hW3⟩
 ·have q3:(y != -1)=false:=by simp [bne,e3]
  rw [q3] at HX;go_wp2_with fail;go_ret;exact ⟨aK (by rw [HX.out];rfl),hW3⟩
namespace K
def opensAt (nd:Int) (l:List Ro) (s:S) (r:List Q) (v:ag) (all:Nat) (x:Lb):Bool :=
 opens (way nd l (req r ((v[x.last.toNat]?).getD 0)).node (T.weight s r (part v all)) s.ax) s.end_ all x
end K
def JV (p:PS) (x:Lb):Prop:=∃ i j q,Elem p i j q/\x.last=(i:Int)/\(0<=q.node/\q.node < p.x.nd)/\(-1<=x.time/\x.time<=1000000)
theorem aif (b mb:Nat) (p:PS) (all ga gp gs:Nat) (A:aj) (n c:Nat) (l:List Lb) (w:World) {X:Nat->Prop} (hp:dZ w b mb p X) (hX:∀ g,X g->g < w.heap.size)
  (ha:w.heap[ga]? = some (.cells #[.int .i64 (all:Int)] 3 (0,0))) (hpp:w.heap[gp]? = some (.cells #[.pointer (some ⟨b,0,none⟩)] 162 (0,0))) (hs:bI w gs p.x.s) (hall:all < 256)
  (hl:gY w A n l) (hn:n<=1000000000) (hok:∀ x ∈ l,JV p x) :
  ay 189 #[.slice A n c,.func (.func 140) #[] #[.pointer (some ⟨ga,0,none⟩),.pointer (some ⟨gp,0,none⟩),.pointer (some ⟨gs,0,none⟩)]] w
   λe w'=>(∃ i:Int,e=.returned (.int .i64 i)/\(decide (0<=i))=l.any (K.opensAt p.x.nd p.x.l p.x.s p.x.r p.l all))/\lJ w w' b mb p X:=by
 go_enter Tryz.func189,Tryz.ntmps189;go_wp2_with fail;go_loopw [8] (λvi wr=>∃ k:Nat,vi=.int .i64 k/\k<=n/\Hid (l.any (K.opensAt p.x.nd p.x.l p.x.s p.x.r p.l all)=(l.drop k).any (K.opensAt p.x.nd p.x.l p.x.s p.x.r p.l all))/\lJ w wr b mb p X) (λvi _=>n - (intOf vi).toNat)
 case atStart=>exact ⟨0,rfl,by omega,by show _=_;rw [List.drop_zero],OO hp ai⟩
 case round =>
  obtain ⟨k,rfl,hk,hr,hW⟩:=hrel;have hx:=hW.ext hp;by_cases hlt:k < n
  ·obtain ⟨ad,x,rfl,hg,c0,c1,c2⟩:=gY.at_ (aX.ext hl hx) hlt;obtain ⟨i,j,q,hel,hxl,hno,htb⟩:=hok x (zD hg);have HS:=zC (oU (p:=K.opensAt p.x.nd p.x.l p.x.s p.x.r p.l all) hg);have HV:=zC (show K.opensAt p.x.nd p.x.l p.x.s p.x.r p.l all x=K.opens (K.way p.x.nd p.x.l q.node (T.weight p.x.s p.x.r (K.part p.l all)) p.x.s.ax) p.x.s.end_ all x by
    unfold K.opensAt;rw [hxl,kE,hel.set,Option.getD_some,K.lZ hel.req])
   have CB:=afu b mb p all x ga gp gs i j q wr hW.2 (λg hg=>dO (hX g hg) hx.size) (hx.cells _ _ _ _ ha) (hx.cells _ _ _ _ hpp) (hx.cells _ _ _ _ hs) hel hxl hno hall htb;rw [<-HV.out] at CB;obtain ⟨r9,gU⟩:=zB (K.opensAt p.x.nd p.x.l p.x.s p.x.r p.l all x);rw [<-gU] at CB;have jo:=zC gU;clear hg gU hxl;go_wp2_with fail;refine CB.mono ?_;rintro e w1 ⟨rfl,hW1⟩;have hW2:=hW.trans hW1;clear CB;cases r9
   ·go_wp2_with fail;go_roundw
    case rel=>exact ⟨k + 1,by go_num,by omega,by show _=_;rw [hr.out,HS.out,<-jo.out];rfl,hW2⟩
    case measure=>simp [intOf];omega
   ·go_wp2_with fail;go_ret;exact ⟨⟨k,rfl,by rw [hr.out,HS.out,<-jo.out];simp⟩,hW2⟩
  ·have hd:l.drop k=[]:=dF (by rw [<-hl.1];omega);have HD:=zC hd;clear hd;go_wp2_with fail;go_ret;exact ⟨⟨-1,rfl,by rw [hr.out,HD.out];rfl⟩,hW⟩
theorem af5 (b mb:Nat) (p:PS) (all ga gp gs:Nat) (A:aj) (n c:Nat) (l:List Lb) (w:World) {X:Nat->Prop} (hp:dZ w b mb p X) (hX:∀ g,X g->g < w.heap.size)
  (ha:w.heap[ga]? = some (.cells #[.int .i64 (all:Int)] 3 (0,0))) (hpp:w.heap[gp]? = some (.cells #[.pointer (some ⟨b,0,none⟩)] 162 (0,0))) (hs:bI w gs p.x.s) (hall:all < 256)
  (hl:gY w A n l) (hn:n<=1000000000) (hok:∀ x ∈ l,JV p x) :
  ay 139 #[.slice A n c,.func (.func 140) #[] #[.pointer (some ⟨ga,0,none⟩),.pointer (some ⟨gp,0,none⟩),.pointer (some ⟨gs,0,none⟩)]] w
   λe w'=>e=.returned (.bool (l.any (K.opensAt p.x.nd p.x.l p.x.s p.x.r p.l all)))/\lJ w w' b mb p X:=by
 have CI:=aif b mb p all ga gp gs A n c l w hp hX ha hpp hs hall hl hn hok;clear ha hpp hs;go_enter Tryz.func139,Tryz.ntmps139;go_wp2_with fail;refine CI.mono ?_;rintro e w1 ⟨⟨i,rfl,hi⟩,hb1⟩;go_wp2_with fail;go_ret;exact ⟨rfl,hb1⟩
namespace K
def blocks (nd:Int) (l:List Ro) (s:S) (r:List Q) (v:ag) (b:List Lb):Bool :=
 bF nd l s r v && (!(v.length == 0) && (decide (b=bG nd l s r v) && !(b.any (opensAt nd l s r v (2 ^ v.length - 1)))))
end K
end Go.Proofs.YtippdjmpkafifaaGreat
