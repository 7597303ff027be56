import Derived.Test.YtippdjmpkafifaaGreatCT5
import Derived.Laws.CopyOwn
set_option maxRecDepth 100000
set_option maxHeartbeats 64000000
namespace Go.Proofs.YtippdjmpkafifaaGreat
open Go.RowKit
namespace K
def dJ (y first t:Int):Int:=if y ≠ -1/\t ≠ -1/\(first=-1\/t + y < first) then t + y else first
theorem QO {y first t:Int} (h:y=-1):dJ y first t=first:=by unfold dJ;rw [if_neg (by simp [h])]
theorem BM {y first t:Int} (h:t=-1):dJ y first t=first:=by unfold dJ;rw [if_neg (by simp [h])]
theorem ahb {y first t:Int} (h:¬ first=-1) (h2:¬ t + y < first):dJ y first t=first:=by unfold dJ;rw [if_neg (by simp [h,h2])]
theorem QR {y first t:Int} (h1:¬ y=-1) (h2:¬ t=-1) (h:first=-1\/t + y < first):dJ y first t=t + y:=by unfold dJ;rw [if_pos ⟨h1,h2,h⟩]
end K
structure gB (w w':World) (mb g:Nat):Prop where
 os:w'.os=w.os
 tape:w'.tape=w.tape
 output:w'.output=w.output
 size:w.heap.size<=w'.heap.size
 block:∀ k,k < w.heap.size->k ≠ mb->k ≠ g->w'.heap[k]? = w.heap[k]?
theorem gB.of {w w':World} {mb g:Nat} (h:w.grownBy w' (some mb)):gB w w' mb g:=⟨h.os,h.tape,h.output,h.size,λk hk hne _=>h.block k hk (λe=>hne (by injection e))⟩
theorem gB.set {w w':World} {mb g:Nat} (h:gB w w' mb g) (i:Nat) (v:Value):gB w (w'.setCell ⟨g,i,none⟩ v) mb g :=
 ⟨h.os,h.tape,h.output,by rw [World.size_setCell];exact h.size,λk hk hne hg=>(Below.heap_setCell w' _ _ k (λe=>hg e)).trans (h.block k hk hne hg)⟩
def GN (w w':World) (mb g10:Nat) (p:PS) (X:Nat->Prop) (first:Int) (e:Ending):Prop :=
 e=.returned (.tuple #[])/\gB w w' mb g10/\dH w' mb p.x.nd p.x.l X/\w'.heap[g10]? = some (.cells #[.int .i64 first] 3 (0,0))
theorem note_any (b mb:Nat) (p:PS) (i j:Nat) (q:Q) (m:Nat) (fr t first:Int) (g4 g7 g9 g10:Nat) (w:World) {X:Nat->Prop} (hp:bP w b mb p X) (hX:∀ g,X g->g < w.heap.size)
  (h4:w.heap[g4]? = some (.cells #[.pointer (some ⟨b,0,none⟩)] 162 (0,0))) (h7:w.heap[g7]? = some (.cells #[.int .i64 (i:Int)] 3 (0,0))) (h9:w.heap[g9]? = some (.cells #[.int .i64 (m:Int)] 3 (0,0))) (h10:w.heap[g10]? = some (.cells #[.int .i64 first] 3 (0,0))) (hXg:X g10)
  (he:Elem p i j q) (hm:m < 256) (hfr:0<=fr/\fr < p.x.nd) (hto:0<=q.node/\q.node < p.x.nd) (hwt:(Lit.int .i64 (T.weight p.x.s p.x.r (K.part p.l m))).wf=true) (ht:-1<=t/\t<=1000000) :
  Calls Tryz.prog 204 #[.int .i64 fr,.int .i64 t,.pointer (some ⟨g4,0,none⟩),.pointer (some ⟨g7,0,none⟩),.pointer (some ⟨g9,0,none⟩),.pointer (some ⟨g10,0,none⟩)] w λe w'=>GN w w' mb g10 p X (K.dJ (K.way p.x.nd p.x.l fr (T.weight p.x.s p.x.r (K.part p.l m)) q.node) first t) e:=by
 obtain ⟨tn,htn⟩:∃ tn:Nat,q.node=(tn:Int):=⟨q.node.toNat,by omega⟩;have kJ:=hp.below (w':=w.drew) (Below.refl _ _).drew;have CN:=Fg b mb p i j q w.drew kJ he;rw [htn] at CN ⊢;have afK:(tn:Int) < p.x.nd:=by omega
 have S0:w.cell? ⟨g4,0,none⟩=some (.pointer (some ⟨b,0,none⟩))/\w.cell? ⟨g7,0,none⟩=some (.int .i64 (i:Int))/\w.cell? ⟨g9,0,none⟩=some (.int .i64 (m:Int)):=⟨af h4 0 _ rfl,af h7 0 _ rfl,af h9 0 _ rfl⟩;have hS:∀ w',Ext w w'->w'.cell? ⟨g4,0,none⟩=some (.pointer (some ⟨b,0,none⟩))/\w'.cell? ⟨g7,0,none⟩=some (.int .i64 (i:Int))/\w'.cell? ⟨g9,0,none⟩=some (.int .i64 (m:Int)):=λw' h=>⟨h.cell S0.1,h.cell S0.2.1,h.cell S0.2.2⟩;have aW:=hS w.drew (Ext.below (Below.refl w.heap.size w).drew);go_enter Tryz.func204,Tryz.ntmps204;go_wp2_with fail
 go_region_held3 (λw'=>w'.cell? ⟨g4,0,none⟩=some (.pointer (some ⟨b,0,none⟩))/\w'.cell? ⟨g7,0,none⟩=some (.int .i64 (i:Int))/\w'.cell? ⟨g9,0,none⟩=some (.int .i64 (m:Int)))
  (first | assumption | exact S0 | exact aW)
  (first
   | (go_at_call 142;refine CN.mono ?_;rintro e w1 ⟨rfl,b1⟩;have hd1:Below w.heap.size w w1:=bel (w1:=w.drew) (Below.refl _ _).drew b1;have hp1:=hp.below hd1;have S1:=hS w1 (Ext.below hd1))
   | (go_at_call 141;refine (ab3 b mb p fr tn m w1 hp1 (λg hg=>Nat.lt_of_lt_of_le (hX g hg) hd1.size) hm hfr afK hwt).mono ?_;rintro e w2 ⟨rfl,hW⟩;have hx2:=(Ext.below hd1).trans (hW.ext hp1);have S2:=hS w2 hx2)
   | fail)
 have hyb:=K.iJ p.x.nd p.x.l fr (T.weight p.x.s p.x.r (K.part p.l m)) tn;obtain ⟨y,hy⟩:=zB (K.way p.x.nd p.x.l fr (T.weight p.x.s p.x.r (K.part p.l m)) tn);rw [<-hy] at hyb ⊢;have HY:=zC hy;obtain ⟨hy0,hy1⟩:=hyb;have DK:=hx2.cells _ _ _ _ h10;have N9:gB w w2 mb g10:=gB.of (fM (ni w _) hd1 |> λh=>grow_step h hW.1 (.inl rfl));have Ot:=hW.2.memo;have hne:g10 ≠ mb:=λe=>by
  obtain ⟨es,clock,hmb,-⟩:=Ot;rw [<-e,DK] at hmb;cases hmb
 have f10:=af DK 0 _ rfl;have z10:=gI DK 0;have hwrap:IntKind.i64.wrap (t + y)=t + y:=IntWalk.i64_in _ (by omega);have hset:GN w (w2.setCell ⟨g10,0,none⟩ (.int .i64 (t + y))) mb g10 p X (t + y) (.returned (.tuple #[])):=⟨rfl,N9.set _ _,Ot.set hXg hne 0 _,bg DK 0 _⟩;have hkeep:GN w w2 mb g10 p X first (.returned (.tuple #[])):=⟨rfl,N9,Ot,DK⟩;have Ad:=zC hset;have Ll:=zC hkeep;clear hset hkeep hy S0 aW S1 S2 hS CN N9 hne;cases c1:(y == -1);rotate_left
 ·have hb1:(y != -1)=false:=by simp [bne,c1]
  have HX:=zC (K.QO (first:=first) (t:=t) (show y=-1 by simpa using c1));clear c1;go_wp2_with fail;refine bodyPost_end (results_none rfl _ _ _) rfl ?_;rw [<-HY.out,HX.out];exact Ll.out
 have hb1:(y != -1)=true:=by simp [bne,c1]
 have hn1:¬ y=-1:=by simpa using c1
 cases c2:(t == -1);rotate_left
 ·have hb2:(t != -1)=false:=by simp [bne,c2]
  have HX:=zC (K.BM (first:=first) (y:=y) (show t=-1 by simpa using c2));clear c2;go_wp2_with fail;refine bodyPost_end (results_none rfl _ _ _) rfl ?_;rw [<-HY.out,HX.out];exact Ll.out
 have hb2:(t != -1)=true:=by simp [bne,c2]
 have hn2:¬ t=-1:=by simpa using c2
 cases c3:(first == -1)
 ·have hn3:¬ first=-1:=by simpa using c3
  cases c4:decide (t + y < first)
  ·have HX:=zC (K.ahb (y:=y) (t:=t) hn3 (of_decide_eq_false c4));clear c1 c2 hn1 hn2 hn3;go_wp2_with fail;refine bodyPost_end (results_none rfl _ _ _) rfl ?_;rw [<-HY.out,HX.out];exact Ll.out
  ·have HX:=zC (K.QR (first:=first) hn1 hn2 (.inr (of_decide_eq_true c4)));clear c1 c2 hn1 hn2 hn3;go_wp2_with fail;refine bodyPost_end (results_none rfl _ _ _) rfl ?_;rw [<-HY.out,HX.out];exact Ad.out
 ·have HX:=zC (K.QR (first:=first) hn1 hn2 (.inl (show first=-1 by simpa using c3)));cases c4:decide (t + y < first)
  all_goals
   clear c1 c2 hn1 hn2;go_wp2_with fail;refine bodyPost_end (results_none rfl _ _ _) rfl ?_;rw [<-HY.out,HX.out];exact Ad.out
theorem T.Su {s:S} {r:List Q} {l:List Int} (hl:l.length<=1000):(Lit.int .i64 (T.weight s r l)).wf=true:=by
 cases h:T.load s r l
 ·rw [T.ab4 h];exact Ce (by decide) (by decide)
 ·have:=T.aj9 h hl;exact Ce (by omega) (by omega)
namespace K
def nodes (r:List Q) (v:List Int):List Int:=v.map λk=>(req r k).node
def firsts (nd:Int) (l:List Ro) (wt tn:Int) (z:List (Int × Int)) (f:Int):Int:=z.foldl (λf x=>dJ (way nd l x.1 wt tn) f x.2) f
def lK (nd:Int) (l:List Ro) (s:S) (wt tn:Int) (rest:Nat):Int:=if rest=0 then dJ (way nd l s.ag wt tn) (-1) s.start else -1
def arrives (nd:Int) (l:List Ro) (s:S) (r:List Q) (v:List Int) (row:List Int) (rest:Nat) (q:Q):Int :=
 firsts nd l (T.weight s r (part v rest)) q.node ((nodes r v).zip row) (lK nd l s (T.weight s r (part v rest)) q.node rest)
def labelOf (s:S) (r:List Q) (q:Q) (all:List Int) (first:Int):Int:=if first=-1 then -1 else if (begins s r q all first).2=true then (begins s r q all first).1 + q.service else -1
def label (nd:Int) (l:List Ro) (s:S) (r:List Q) (v:List Int) (row:List Int) (rest i:Nat) (q:Q):Int:=labelOf s r q (part v (rest + 2 ^ i)) (arrives nd l s r v row rest q)
theorem tZ {s:S} {r:List Q} {q:Q} {all:List Int} {arr:Int} (h:(begins s r q all arr).2=true):(s.day < q.aB\/q.aA < s.day\/s.end_ < arr\/T.fits s r all=false)=False/\(H.fit q.l arr q.service).2=true/\(begins s r q all arr).1=(H.fit q.l arr q.service).1/\0<=arr/\arr<=(begins s r q all arr).1/\(begins s r q all arr).1 + q.service<=s.end_/\(begins s r q all arr).1 + q.service<=1000000:=by
 unfold begins at h ⊢;by_cases hc:s.day < q.aB\/q.aA < s.day\/s.end_ < arr\/T.fits s r all=false
 ·rw [if_pos hc] at h;cases h
 ·rw [if_neg hc] at h ⊢;simp only [Bool.and_eq_true,decide_eq_true_eq] at h;obtain ⟨-,⟨a0,-⟩,-,g1,g2⟩:=H.lM h.1;exact ⟨eq_false hc,h.1,rfl,a0,g1,h.2,g2⟩
theorem aeq {nd:Int} {l:List Ro} {wt tn f:Int} {z:List (Int × Int)} {k:Nat} {x:Int × Int} (h:z[k]? = some x):firsts nd l wt tn (z.take (k + 1)) f=dJ (way nd l x.1 wt tn) (firsts nd l wt tn (z.take k) f) x.2:=by
 unfold firsts;rw [take_snoc h,List.foldl_append];rfl
end K
theorem aeH {w w1 w2:World} {mb g:Nat} (h:w.grownBy w1 (some mb)) (h2:gB w1 w2 mb g) (hg:w.heap.size<=g):w.grownBy w2 (some mb) :=
 ⟨h2.os.trans h.os,h2.tape.trans h.tape,h2.output.trans h.output,Nat.le_trans h.size h2.size,λk hk hne=>(h2.block k (Nat.lt_of_lt_of_le hk h.size) (λe=>hne (by rw [e])) (by omega)).trans (h.block k hk hne)⟩
theorem K.FW {nd:Int} {r:List Q}:∀ (v:List Int) (p:Int),K.jI nd r p v=true->∀ k ∈ v,0<=k/\k < (r.length:Int)/\(K.req r k).node < nd
 | [],_,_=>λk hk=>by cases hk
 | i :: v,p,h=>λk hk=>by
  simp only [K.jI,Bool.and_eq_true,decide_eq_true_eq] at h;rcases List.mem_cons.1 hk with rfl | hk
  ·exact ⟨h.1,h.2.1,h.2.2.2.1⟩
  ·exact K.FW v i h.2.2.2.2 k hk
theorem bP.elem {w:World} {b mb:Nat} {p:PS} {X:Nat->Prop} (h:bP w b mb p X) {k:Nat} (hk:k < p.n) :
  ∃ j q,Elem p k j q/\(0<=q.node/\q.node < p.x.nd)/\(0<=q.service/\q.service<=1000000)/\(K.nodes p.x.r p.l)[k]? = some q.node:=by
 obtain ⟨hne,hck,hdp,hrq,bJ,hgo⟩:=K.fU h.ok;have hlt:k < p.l.length:=by rw [<-h.set.1];exact hk
 have hg:p.l[k]? = some p.l[k]:=zF hlt;obtain ⟨h0,h1,h2⟩:=K.FW _ _ hgo _ (List.getElem_mem hlt);obtain ⟨j,hj⟩:∃ j:Nat,p.l[k] = (j:Int):=⟨p.l[k].toNat,by omega⟩;rw [hj] at hg h0 h1 h2;obtain ⟨q,hq⟩:∃ q,p.x.r[j]? = some q:=⟨_,zF (by omega)⟩;obtain ⟨⟨n0,-⟩,hs,-⟩:=K.zO (hrq q (zD hq));rw [K.jH hq] at h2;exact ⟨j,q,⟨hg,hq⟩,⟨n0,h2⟩,hs,by rw [K.nodes,List.getElem?_map,hg];simp [K.jH hq]⟩
structure jv (w:World) (b mb rest i:Nat) (p:PS) (X:Nat->Prop) (first:Int) (wr:World):Prop where
 grown:w.grownBy wr (some mb)
 memo:dH wr mb p.x.nd p.x.l (λg=>X g\/g=w.heap.size + 1 + 1 + 1)
 g4:wr.heap[w.heap.size]? = some (.cells #[.pointer (some ⟨b,0,none⟩)] 162 (0,0))
 g7:wr.heap[w.heap.size + 1]? = some (.cells #[.int .i64 (i:Int)] 3 (0,0))
 g9:wr.heap[w.heap.size + 1 + 1]? = some (.cells #[.int .i64 (rest:Int)] 3 (0,0))
 g10:wr.heap[w.heap.size + 1 + 1 + 1]? = some (.cells #[.int .i64 first] 3 (0,0))
theorem jv.pat {w wr:World} {b mb rest i:Nat} {p:PS} {X:Nat->Prop} {first:Int} (h:jv w b mb rest i p X first wr) (hp:bP w b mb p X):bP wr b mb p (λg=>X g\/g=w.heap.size + 1 + 1 + 1) :=
 (hp.more (Y:=λg=>X g\/g=w.heap.size + 1 + 1 + 1) (λg hg hy=>hy.resolve_right (by omega))).keep (hp.memo.ext h.grown) h.memo
theorem jv.below {w wr w':World} {b mb rest i:Nat} {p:PS} {X:Nat->Prop} {first:Int} (h:jv w b mb rest i p X first wr) (hb:Below wr.heap.size wr w'):jv w b mb rest i p X first w' :=
 ⟨fM h.grown hb,h.memo.below hb,az hb h.g4,az hb h.g7,az hb h.g9,az hb h.g10⟩
theorem jv.dJ {w wr w':World} {b mb rest i:Nat} {p:PS} {X:Nat->Prop} {first f':Int} {e:Ending} (h:jv w b mb rest i p X first wr) (hn:GN wr w' mb (w.heap.size + 1 + 1 + 1) p (λg=>X g\/g=w.heap.size + 1 + 1 + 1) f' e) (hmb:mb < w.heap.size):jv w b mb rest i p X f' w':=by
 obtain ⟨-,hB,hM,hg⟩:=hn;exact ⟨aeH h.grown hB (by omega),hM,(hB.block _ (lt_of_block h.g4) (by omega) (by omega)).trans h.g4,(hB.block _ (lt_of_block h.g7) (by omega) (by omega)).trans h.g7,(hB.block _ (lt_of_block h.g9) (by omega) (by omega)).trans h.g9,hg⟩
theorem jv.cells {w wr:World} {b mb rest i:Nat} {p:PS} {X:Nat->Prop} {first:Int} (h:jv w b mb rest i p X first wr):wr.cell? ⟨w.heap.size,0,none⟩=some (.pointer (some ⟨b,0,none⟩))/\wr.cell? ⟨w.heap.size + 1,0,none⟩=some (.int .i64 (i:Int))/\wr.cell? ⟨w.heap.size + 1 + 1,0,none⟩=some (.int .i64 (rest:Int))/\wr.cell? ⟨w.heap.size + 1 + 1 + 1,0,none⟩=some (.int .i64 first) :=
 ⟨af h.g4 0 _ rfl,af h.g7 0 _ rfl,af h.g9 0 _ rfl,af h.g10 0 _ rfl⟩
theorem jv.start {w:World} {b mb:Nat} {p:PS} {X:Nat->Prop} (hp:bP w b mb p X) (rest i:Nat) :
  jv w b mb rest i p X (-1) ((((w.alloc (.cells #[.pointer (some ⟨b,0,none⟩)] 162)).alloc (.cells #[.int .i64 (i:Int)] 3)).alloc (.cells #[.int .i64 (rest:Int)] 3)).alloc (.cells #[.int .i64 (-1)] 3)):=by
 have z1:=World.size_alloc w (.cells #[.pointer (some ⟨b,0,none⟩)] 162);have z2:=World.size_alloc (w.alloc (.cells #[.pointer (some ⟨b,0,none⟩)] 162)) (.cells #[.int .i64 (i:Int)] 3);have z3:=World.size_alloc ((w.alloc (.cells #[.pointer (some ⟨b,0,none⟩)] 162)).alloc (.cells #[.int .i64 (i:Int)] 3)) (.cells #[.int .i64 (rest:Int)] 3);have hb:Below w.heap.size w ((((w.alloc (.cells #[.pointer (some ⟨b,0,none⟩)] 162)).alloc (.cells #[.int .i64 (i:Int)] 3)).alloc (.cells #[.int .i64 (rest:Int)] 3)).alloc (.cells #[.int .i64 (-1)] 3)) :=
  bel (bel (bel ((Below.refl _ _).alloc (zG _) _) ((Below.refl _ _).alloc (zG _) _)) ((Below.refl _ _).alloc (zG _) _)) ((Below.refl _ _).alloc (zG _) _)
 refine ⟨fM (ni w _) hb,(hp.memo.more (λg hg hy=>hy.resolve_right (by omega))).below hb,bu (bu (bu (heap_alloc_new _ _) _) _) _,bu (bu (bI _ _ _ z1.symm) _) _,bu (bI _ _ _ (by rw [z2,z1])) _,bI _ _ _ (by rw [z3,z2,z1])⟩
theorem agk (b mb:Nat) (p:PS) (go N Nc m rest i j:Nat) (q:Q) (row:List Int) (R:Option Addr) (rn rc:Nat) (w:World) {X:Nat->Prop} (hp:bP w b mb p X) (hX:∀ g,X g->g < w.heap.size)
  (he:Elem p i j q) (hno:0<=q.node/\q.node < p.x.nd) (hse:0<=q.service/\q.service<=1000000) (hm:m < 64) (yY:m.testBit i=true) (hrest:rest + 2 ^ i=m) (iF:rest.testBit i=false)
  (hrow:w.cell? ⟨go,rest,none⟩=some (.slice R rn rc)) (hN:rest < N) (hR:Ints w R rn row) (hrl:row.length=p.l.length) (hrb:∀ t ∈ row,-1<=t/\t<=1000000) :
  Calls Tryz.prog 177 #[.pointer (some ⟨b,0,none⟩),.slice (some ⟨go,0,none⟩) N Nc,.int .i64 m,.int .i64 i] w λe w'=>e=.returned (.int .i64 (K.label p.x.nd p.x.l p.x.s p.x.r p.l row rest i q))/\jw w w' b mb p X:=by
 obtain ⟨hi,hj⟩:=he.lt hp;obtain ⟨hne,hck,hdp,hrq,bJ,hgo⟩:=K.fU hp.ok;obtain ⟨-,⟨d0,d1⟩,st0,st1,pX⟩:=K.pW hck;have kH:p.n<=6:=by rw [hp.set.1];exact bJ
 have hwt:(Lit.int .i64 (T.weight p.x.s p.x.r (K.part p.l rest))).wf=true:=T.Su (by have:=K.nN p.l rest;omega);have hlt:=lt_of_block hp.blk;have hand:bits BinOp.andNot IntKind.i64 (m:Int) (IntKind.i64.wrap (2 ^ i))=(rest:Int):=by rw [pz (by omega),ac7 hm (by omega) yY,show m - 2 ^ i=rest by omega]
 have HFI:=zC (show (if rest=0 then K.dJ (K.way p.x.nd p.x.l p.x.s.ag (T.weight p.x.s p.x.r (K.part p.l rest)) q.node) (-1) p.x.s.start else -1)=K.lK p.x.nd p.x.l p.x.s (T.weight p.x.s p.x.r (K.part p.l rest)) q.node rest from rfl);have hrm:rest < 64:=by have:=Nat.two_pow_pos i;omega
 have hand':bits BinOp.andNot IntKind.i64 (m:Int) (wrap64 (2 ^ i))=(rest:Int):=by rw [<-IntWalk.i64_left];exact hand
 have hmb:=hp.memo.lt;have Mc:=zC hrest;have Gm:=zC hdp;clear hne hck hrq hgo hrest;have hL:=jv.start hp rest i;obtain ⟨w4,hw4⟩:=zB (((((w.alloc (.cells #[.pointer (some ⟨b,0,none⟩)] 162)).alloc (.cells #[.int .i64 (i:Int)] 3)).alloc (.cells #[.int .i64 (rest:Int)] 3)).alloc (.cells #[.int .i64 (-1)] 3)));have k2:(0:Int)<=(rest:Int):=by omega
 have k3:(rest:Int) < (N:Int):=by omega
 go_enter Tryz.func177,Tryz.ntmps177;obtain ⟨z0,hz0⟩:∃ z0:Bool,((rest:Int) == 0)=z0:=⟨_,rfl⟩;go_upto_if 22 with fail
 rw [<-hw4];rw [<-hw4] at hL;clear hand hand' hw4;go_cut [10] from 23 to 34 (λv10 wc=>v10=.pointer (some ⟨w.heap.size + 1 + 1 + 1,0,none⟩)/\jv w b mb rest i p X (K.lK p.x.nd p.x.l p.x.s (T.weight p.x.s p.x.r (K.part p.l rest)) q.node rest) wc)
 case first =>
  obtain ⟨l0,l1,l2,l3⟩:=hL.cells;cases z0;rotate_left
  ·have hr0:rest=0:=by simpa using hz0
   have Lc:=zC (show K.lK p.x.nd p.x.l p.x.s (T.weight p.x.s p.x.r (K.part p.l rest)) q.node rest=K.dJ (K.way p.x.nd p.x.l p.x.s.ag (T.weight p.x.s p.x.r (K.part p.l rest)) q.node) (-1) p.x.s.start by unfold K.lK;rw [if_pos hr0]);clear hr0 hz0;go_wp2_with fail;clear l0 l1 l2 l3;have hp4:=hL.pat hp;have yE:=hL.below (w':=w4.drew) (Below.refl _ _).drew;have afv:=yE.pat hp;have hS:∀ w',jv w b mb rest i p X (-1) w'->(λw'=>w'.cell? ⟨w.heap.size,0,none⟩=some (.pointer (some ⟨b,0,none⟩))/\w'.cell? ⟨w.heap.size + 1,0,none⟩=some (.int .i64 (i:Int))/\w'.cell? ⟨w.heap.size + 1 + 1,0,none⟩=some (.int .i64 (rest:Int))/\w'.cell? ⟨b,0,none⟩=some (.int .i64 p.x.nd)/\w'.cell? ⟨b,1,none⟩=some (.slice p.x.A p.x.n p.x.c)/\w'.cell? ⟨b,2,none⟩=some (.int .i64 p.x.s.day)/\w'.cell? ⟨b,3,none⟩=some (.int .i64 p.x.s.ag)/\w'.cell? ⟨b,4,none⟩=some (.int .i64 p.x.s.start) /\
  w'.cell? ⟨b,5,none⟩=some (.int .i64 p.x.s.end_)/\w'.cell? ⟨b,6,none⟩=some (.int .i64 p.x.s.aj)/\w'.cell? ⟨b,7,none⟩=some (.slice p.x.s.A p.x.s.n p.x.s.c)/\w'.cell? ⟨b,8,none⟩=some (.slice p.x.B p.x.m p.x.d)/\w'.cell? ⟨b,9,none⟩=some (.slice p.A p.n p.c)/\w'.cell? ⟨b,10,none⟩=some (.map (some mb))) w':=λw' h=>⟨h.cells.1,h.cells.2.1,h.cells.2.2.1,(h.pat hp).blk.cells⟩
   have lS:∀ w' f,jv w b mb rest i p X f w'->(λw'=>w'.cell? ⟨w.heap.size,0,none⟩=some (.pointer (some ⟨b,0,none⟩))/\w'.cell? ⟨w.heap.size + 1,0,none⟩=some (.int .i64 (i:Int))/\w'.cell? ⟨w.heap.size + 1 + 1,0,none⟩=some (.int .i64 (rest:Int))/\w'.cell? ⟨b,0,none⟩=some (.int .i64 p.x.nd)/\w'.cell? ⟨b,1,none⟩=some (.slice p.x.A p.x.n p.x.c)/\w'.cell? ⟨b,2,none⟩=some (.int .i64 p.x.s.day)/\w'.cell? ⟨b,3,none⟩=some (.int .i64 p.x.s.ag)/\w'.cell? ⟨b,4,none⟩=some (.int .i64 p.x.s.start) /\
  w'.cell? ⟨b,5,none⟩=some (.int .i64 p.x.s.end_)/\w'.cell? ⟨b,6,none⟩=some (.int .i64 p.x.s.aj)/\w'.cell? ⟨b,7,none⟩=some (.slice p.x.s.A p.x.s.n p.x.s.c)/\w'.cell? ⟨b,8,none⟩=some (.slice p.x.B p.x.m p.x.d)/\w'.cell? ⟨b,9,none⟩=some (.slice p.A p.n p.c)/\w'.cell? ⟨b,10,none⟩=some (.map (some mb))) w':=λw' f h=>⟨h.cells.1,h.cells.2.1,h.cells.2.2.1,(h.pat hp).blk.cells⟩
   have S0:=hS _ hL;have aW:=hS _ yE;have hX1:∀ g,(X g\/g=w.heap.size + 1 + 1 + 1)->g < w4.heap.size:=λg hg=>by
    rcases hg with hg | hg
    ·exact Nat.lt_of_lt_of_le (hX g hg) hL.grown.size
    ·rw [hg];exact lt_of_block hL.g10
   go_region_held3 (λw'=>w'.cell? ⟨w.heap.size,0,none⟩=some (.pointer (some ⟨b,0,none⟩))/\w'.cell? ⟨w.heap.size + 1,0,none⟩=some (.int .i64 (i:Int))/\w'.cell? ⟨w.heap.size + 1 + 1,0,none⟩=some (.int .i64 (rest:Int))/\w'.cell? ⟨b,0,none⟩=some (.int .i64 p.x.nd)/\w'.cell? ⟨b,1,none⟩=some (.slice p.x.A p.x.n p.x.c)/\w'.cell? ⟨b,2,none⟩=some (.int .i64 p.x.s.day)/\w'.cell? ⟨b,3,none⟩=some (.int .i64 p.x.s.ag)/\w'.cell? ⟨b,4,none⟩=some (.int .i64 p.x.s.start) /\
  w'.cell? ⟨b,5,none⟩=some (.int .i64 p.x.s.end_)/\w'.cell? ⟨b,6,none⟩=some (.int .i64 p.x.s.aj)/\w'.cell? ⟨b,7,none⟩=some (.slice p.x.s.A p.x.s.n p.x.s.c)/\w'.cell? ⟨b,8,none⟩=some (.slice p.x.B p.x.m p.x.d)/\w'.cell? ⟨b,9,none⟩=some (.slice p.A p.n p.c)/\w'.cell? ⟨b,10,none⟩=some (.map (some mb)))
    (first | assumption | exact S0 | exact aW)
    (first
     | (go_at_call 204;refine (note_any b mb p i j q rest p.x.s.ag p.x.s.start (-1) w.heap.size (w.heap.size + 1) (w.heap.size + 1 + 1) (w.heap.size + 1 + 1 + 1) w4.drew afv hX1 yE.g4 yE.g7 yE.g9 yE.g10 (.inr rfl) he (by omega) ⟨d0,Gm.out⟩ hno hwt (by omega)).mono ?_;rintro e w5 hnt;have hL5:=yE.dJ hnt hmb;have S5:=lS _ _ hL5;obtain ⟨rfl,-⟩:=hnt)
     | fail)
   go_wp2_with fail;go_meet
   case rel=>exact ⟨rfl,by rw [Lc.out];exact hL5⟩
  ·have hr0:¬ rest=0:=by simpa using hz0
   have Lc:=zC (show K.lK p.x.nd p.x.l p.x.s (T.weight p.x.s p.x.r (K.part p.l rest)) q.node rest=-1 by unfold K.lK;rw [if_neg hr0]);clear hr0 hz0;go_wp2_with fail;go_meet
   case rel=>exact ⟨rfl,by rw [Lc.out];exact hL⟩
 case rest =>
  obtain ⟨rfl,hL⟩:=hcut;clear hz0;have hrow0:(∀ w' first,jv w b mb rest i p X first w'->w'.cell? ⟨go,rest,none⟩=some (.slice R rn rc)):=λw' first h=>(hp.memo.ext h.grown).cell hrow;have hRI:(∀ w' first,jv w b mb rest i p X first w'->Ints w' R rn row):=λw' first h=>hR.ext (hp.memo.ext h.grown);have aO:=zC (show rn=p.n by rw [hR.1,hrl,<-hp.set.1]);have Yt:rn<=6:=by rw [aO.out];exact kH
  obtain ⟨l0,l1,l2,l3⟩:=hL.cells;have r0:=hrow0 _ _ hL;go_wp2_with fail;go_loopw [40] (λv40 wr=>∃ k:Nat,v40=.int .i64 k/\k<=rn/\jv w b mb rest i p X (K.firsts p.x.nd p.x.l (T.weight p.x.s p.x.r (K.part p.l rest)) q.node (((K.nodes p.x.r p.l).zip row).take k) (K.lK p.x.nd p.x.l p.x.s (T.weight p.x.s p.x.r (K.part p.l rest)) q.node rest)) wr) (λv40 _=>rn - (intOf v40).toNat)
  case atStart=>exact ⟨0,rfl,by omega,hL⟩
  case round =>
   clear l0 l1 l2 l3 r0 hL;obtain ⟨k,rfl,hk,hL⟩:=hrel;have hpr:=hL.pat hp;obtain ⟨l0,l1,l2,l3⟩:=hL.cells;by_cases hlt:k < rn
   ·obtain ⟨adr,tk,oI,htk,ctk⟩:=(hRI _ _ hL).at_ hlt;obtain ⟨jk,qk,hek,hnk,-,hgn⟩:=hp.elem (k:=k) (by rw [<-aO.out];exact hlt);have HZ:=zC (show ((K.nodes p.x.r p.l).zip row)[k]? = some (qk.node,tk) by rw [List.getElem?_zip_eq_some];exact ⟨hgn,htk⟩);have htb:=hrb tk (zD htk);have k4:(0:Int)<=(k:Int):=by omega
    have k5:(k:Int) < (rn:Int):=by omega
    clear htk hgn;rw [oI];go_wp2_with fail;refine (Fg b mb p k jk qk wr hpr hek).mono ?_;rintro e w5 ⟨rfl,b5⟩;have hL5:=hL.below b5;have A_:∀ g,(X g\/g=w.heap.size + 1 + 1 + 1)->g < w5.heap.size:=λg hg=>by
     rcases hg with hg | hg
     ·exact Nat.lt_of_lt_of_le (hX g hg) hL5.grown.size
     ·rw [hg];exact lt_of_block hL5.g10
    clear l0 l1 l2 l3 ctk;go_wp2_with fail;refine (note_any b mb p i j q rest qk.node tk _ w.heap.size (w.heap.size + 1) (w.heap.size + 1 + 1) (w.heap.size + 1 + 1 + 1) w5 (hL5.pat hp) A_ hL5.g4 hL5.g7 hL5.g9 hL5.g10 (.inr rfl) he (by omega) hnk hno hwt htb).mono ?_;rintro e w6 hnt;have hL6:=hL5.dJ hnt hmb;obtain ⟨rfl,-⟩:=hnt;clear hL5 A_;go_wp2_with fail;go_roundw
    case rel=>exact ⟨k + 1,by go_num,by omega,by rw [K.aeq HZ.out];exact hL6⟩
    case measure=>simp [intOf];omega
   ·clear l0 l1 l2 l3;have hkn:k=rn:=by omega
    have hzl:((K.nodes p.x.r p.l).zip row).take k=(K.nodes p.x.r p.l).zip row:=List.take_of_length_le (by rw [List.length_zip];have:=hR.1;omega);rw [hzl] at hL;obtain ⟨F,hF⟩:=zB (K.arrives p.x.nd p.x.l p.x.s p.x.r p.l row rest q);have hL:jv w b mb rest i p X F wr:=by rw [hF];exact hL
    have HF:=zC (show K.label p.x.nd p.x.l p.x.s p.x.r p.l row rest i q=K.labelOf p.x.s p.x.r q (K.part p.l (rest + 2 ^ i)) F by unfold K.label;rw [hF]);have hW:jw w wr b mb p X:=⟨hL.grown,hp.keep (hp.memo.ext hL.grown) (hL.memo.more (λg _ hg=>.inl hg))⟩;obtain ⟨l0,l1,l2,l3⟩:=hL.cells;clear hF hzl hkn;cases hf1:(F == -1);rotate_left
    ·have HX:=zC (show K.labelOf p.x.s p.x.r q (K.part p.l (rest + 2 ^ i)) F=-1 by unfold K.labelOf;rw [if_pos (show F=-1 by simpa using hf1)]);go_wp2_with fail;go_ret;exact ⟨by rw [HF.out,HX.out];rfl,hW⟩
    have zZ:=zC (show ¬ F=-1 by simpa using hf1);have CB:=aal b mb p rest i j q F wr hpr he hrm iF (by rw [Mc.out];omega) hse;unfold Gf at CB;have hok:=K.tZ (s:=p.x.s) (r:=p.x.r) (q:=q) (all:=K.part p.l (rest + 2 ^ i)) (arr:=F);obtain ⟨B,hB⟩:=zB (K.begins p.x.s p.x.r q (K.part p.l (rest + 2 ^ i)) F);rw [<-hB] at CB hok;have HL:=zC (show K.labelOf p.x.s p.x.r q (K.part p.l (rest + 2 ^ i)) F=if B.2=true then B.1 + q.service else -1 by unfold K.labelOf;rw [if_neg zZ.out,<-hB]);have aJ:=zC hok;obtain ⟨t,ok⟩:=B;clear hB hok;simp only at CB;go_wp2_with fail;refine CB.mono ?_;rintro e w5 ⟨rfl,b5⟩;have hL5:=hL.below b5;have D7:=hW.below b5;have rY:=D7.2;clear l0 l1 l2 l3 CB;obtain ⟨l0,l1,l2,l3⟩:=hL5.cells;cases ok
    ·go_wp2_with fail;go_ret;exact ⟨by rw [HF.out,HL.out];rfl,D7⟩
    ·obtain ⟨-,-,-,t0,t1,t2,t3⟩:=aJ.out rfl;have hwrap:IntKind.i64.wrap (t + q.service)=t + q.service:=IntWalk.i64_in _ (by omega);obtain ⟨c0,c1,c2,c3,c4,c5,c6,c7,c8,c9,c10⟩:=rY.blk.cells;obtain ⟨au,ad,hA,hB,-,y,e0,e1,e2,e3,-⟩:=he.cells rY;rw [hA] at c9;rw [hB] at c8;have k6:(0:Int)<=(i:Int):=by omega
     have k7:(i:Int) < (p.n:Int):=by omega
     have k8:(0:Int)<=(j:Int):=by omega
     have k9:(j:Int) < (p.x.m:Int):=by omega
     clear hA hB;go_wp2_with fail;go_quiet (fail);go_wp2_with fail;go_ret;exact ⟨by rw [HF.out,HL.out];rfl,D7.below (below_drewN (Below.refl _ _) _)⟩
def Rep (n k:Nat):List Value:=List.replicate k (Value.int .i64 (-1)) ++ List.replicate (n - k) (Value.int .i64 0)
theorem aaR {n k:Nat} (h:k<=n):(Rep n k).length=n:=by simp [Rep];omega
theorem ail (n:Nat):intCells (List.replicate n 0)=Rep n 0:=by simp [Rep,intCells]
theorem aik (n:Nat):Rep n n=intCells (List.replicate n (-1)):=by simp [Rep,intCells]
theorem aaS {n k c:Nat} (h:k + c<=n):splice (Rep n k) k (List.replicate c (Value.int .i64 (-1)))=Rep n (k + c):=by
 unfold splice Rep;have e1:(List.replicate k (Value.int .i64 (-1)) ++ List.replicate (n - k) (Value.int .i64 0)).take k=List.replicate k (Value.int .i64 (-1)):=by
  rw [List.take_append_of_le_length (by simp)];exact List.take_of_length_le (by simp)
 have e2:(List.replicate k (Value.int .i64 (-1)) ++ List.replicate (n - k) (Value.int .i64 0)).drop (k + (List.replicate c (Value.int .i64 (-1))).length)=List.replicate (n - (k + c)) (Value.int .i64 0):=by
  rw [List.length_replicate,List.drop_append,List.drop_eq_nil_of_le (by simp),List.nil_append,List.length_replicate,List.drop_replicate];congr 1;omega
 rw [e1,e2,<-List.append_assoc,List.replicate_append_replicate]
theorem agY:∀ n:Fin 7,bits .and .u64 (n.val:Int) 4294967295=n.val:=by decide +kernel
theorem agZ:∀ n:Fin 7,(n.val:Int) / 4294967296=0:=by decide +kernel
theorem agX (n:Nat) (hn:n<=6) (w:World) :
  Calls Tryz.prog 211 #[.int .u64 1,.int .u64 n] w λe w'=>e=.returned (.tuple #[.int .u64 0,.int .u64 n])/\w'=w:=by
 have h1:bits BinOp.and IntKind.u64 1 4294967295=1:=by decide
 have h2:bits BinOp.and IntKind.u64 (n:Int) 4294967295=n:=agY ⟨n,by omega⟩;have h3:(n:Int) / 4294967296=0:=agZ ⟨n,by omega⟩;have h4:bits BinOp.and IntKind.u64 0 4294967295=0:=by decide
 go_enter Tryz.func211,Tryz.ntmps211;go_wp2_with fail;go_ret2
 exact ⟨rfl,rfl⟩
theorem mul_any (n:Nat) (hn:n<=6) (w:World) :
  Calls Tryz.prog 203 #[.int .u64 1,.int .u64 n] w λe w'=>e=.returned (.tuple #[.int .u64 0,.int .u64 n])/\w'=w:=by
 go_enter Tryz.func203,Tryz.ntmps203;go_wp2_with fail;refine (agX n hn w).mono ?_;rintro e w' ⟨rfl,rfl⟩;go_wp2_with fail;go_ret2
 exact ⟨rfl,rfl⟩
theorem aim (g:Nat) (n:Nat) (hn:n<=6) (w:World) (hg:w.heap[g]? = some (.cells #[.int .i64 (-1)] 3 (0,0))) :
  Calls Tryz.prog 176 #[.slice (some ⟨g,0,none⟩) 1 1,.int .i64 n] w λe w'=>(∃ b,e=.returned (.slice (some ⟨b,0,none⟩) n n)/\w.heap.size<=b/\di w' b (List.replicate n (-1)))/\Below w.heap.size w w':=by
 have hmk:=λw'=>BL n (by omega) w';have h0:IntKind.u64.wrap (n:Int)=(n:Int):=by rw [IntKind.wrap_u64];omega
 go_enter Tryz.func176,Tryz.ntmps176;go_wp2_with fail;refine (mul_any n hn w).mono ?_;rintro e w0 ⟨rfl,rfl⟩;have c1:decide ((9223372036854775807:Int) < (n:Int))=false:=by simp;omega
 have h5:IntKind.i64.wrap (n:Int)=(n:Int):=IntWalk.i64_in _ (by omega);have hsz:(Tryz.prog.info? 3).map (·.size)=some 1:=by kernel_rfl
 obtain ⟨X0,hX0⟩:=zB (Rep n 0);obtain ⟨X1,hX1⟩:=zB (List.replicate (min 1 n) (Value.int .i64 (-1)));have hl0:X0.length=n:=by rw [hX0];exact aaR (Nat.zero_le n)
 have hl1:X1.length=min 1 n:=by rw [hX1];simp
 have ho1:∀ v ∈ X1,v.oneCell'=true:=by rw [hX1];intro v hv;rw [(List.mem_replicate.1 hv).2];rfl
 rw [ail,<-hX0] at hmk;have hgn:(w0.alloc (.cells X0.toArray 3)).heap[w0.heap.size]? = some (.cells X0.toArray 3 (0,0)):=heap_alloc_new _ _;have hsrc:∀ j v,X1[j]? = some v->(w0.alloc (.cells X0.toArray 3)).cell? ((⟨g,0,none⟩:Addr).add j)=some v:=λj v hv=>by
  have hgl:=lt_of_block hg;have hj:j=0/\v=.int .i64 (-1):=by
   obtain ⟨hj,e⟩:=zE.1 hv;have h1:=hl1;refine ⟨by omega,?_⟩;subst e;simp [hX1]
  obtain ⟨rfl,rfl⟩:=hj;exact af (bu hg _) 0 _ rfl
 have hb0:Below w0.heap.size w0 (w0.alloc (.cells X0.toArray 3)):=(Below.refl _ _).alloc (zG _) _;have HX0:=zC hX0;have HX1:=zC hX1;have Lp:=zC hl0;have Lr:=zC hl1;have hmn:X1.length=Nat.min 1 n:=hl1;have LC:=zC hmn;clear hX0 hX1 hl0 hl1 hmn;go_wp2_with (refine wpList_copy_splice rfl (.tmp 31) (.tmp 32) 48 48 rfl 3 Tryz.underlying48 hsz (some ⟨w0.heap.size,0,none⟩) (some ⟨g,0,none⟩) n n 1 1 rfl rfl w0.heap.size 0 X0 3 hgn X1 LC.out (λ_=>⟨rfl,_,rfl,hsrc⟩) (by rw [Lp.out,Lr.out];omega) ho1 w0.heap.size w0 hb0 (zG _) ?_;intro w2 hg2 hb2);have hk1:min 1 n<=n:=Nat.min_le_right _ _;have CQ:=zC (show n=0\/0 < min 1 n by omega);have qB:Hid (w2.heap[w0.heap.size]? = some (.cells (Rep n (min 1 n)).toArray 3 (0,0))):=by
  have h9:=hg2.out;rw [HX0.out,HX1.out,aaS (by omega),Nat.zero_add] at h9;exact h9
 have S_:=zC (show goInt X1.length=.int .i64 ((min 1 n:Nat):Int) by rw [Lr.out];rfl);go_wp2_with fail;go_loopw [8] (λv8 wr=>∃ k:Nat,v8=.int .i64 k/\k<=n/\Hid (n=0\/0 < k)/\Hid (wr.heap[w0.heap.size]? = some (.cells (Rep n k).toArray 3 (0,0)))/\Below w0.heap.size w0 wr) (λv8 _=>n - (intOf v8).toNat)
 case atStart=>exact ⟨min 1 n,by first | exact S_.out | (rw [Lr.out]),hk1,CQ.out,qB.out,hb2⟩
 case round =>
  clear qB hg2 hb2 hgn hb0 hsrc hmk;obtain ⟨k,rfl,hk,hk0,hrow,hbr⟩:=hrel;by_cases hlt:k < n
  ·have hcf:(n=k)=False:=eq_false (by omega);have k0:(0:Int)<=(k:Int):=by omega
   have k1:(k:Int)<=(n:Int):=by omega
   have hkp:0 < k:=hk0.out.resolve_left (by omega);obtain ⟨c,hc⟩:=zB (min k (n - k));obtain ⟨X2,hX2⟩:=zB (List.replicate c (Value.int .i64 (-1)));have HC:=zC hc;have qU:=zC hX2;have HL2:=zC (show X2.length=c by rw [hX2];simp);have Gv:=zC (show ∀ v ∈ X2,v.oneCell'=true by rw [hX2];intro v hv;rw [(List.mem_replicate.1 hv).2];rfl);have hsrc:∀ j v,X2[j]? = some v->wr.cell? ((⟨w0.heap.size,0,none⟩:Addr).add j)=some v:=λj v hv=>by
    obtain ⟨hj,e⟩:=zE.1 hv;have h1:j < c:=by rw [<-HL2.out];exact hj
    subst e;rw [jy];refine af hrow.out j _ ?_;have hjk:j < k:=by rw [HC.out] at h1;omega
    simp only [qU.out,List.getElem_replicate];unfold Rep;rw [List.getElem?_toArray,List.getElem?_append_left (by simp;omega),List.getElem?_replicate,if_pos hjk]
   have hcn:c<=n - k:=by rw [hc];exact Nat.min_le_right _ _
   have hc1:0 < c:=by omega
   clear hc hX2;have HWX:=zC (show IntKind.i64.wrap ((k:Int) + (X2.length:Int))=((k + c:Nat):Int) by rw [HL2.out,IntWalk.i64_in _ (by omega)];omega);have hbd:Below w0.heap.size w0 wr.drew:=hbr.drew;have hrowd:wr.drew.heap[w0.heap.size]? = some (.cells (Rep n k).toArray 3 (0,0)):=hrow.out;have YA:∀ j v,X2[j]? = some v->wr.drew.cell? ((⟨w0.heap.size,0,none⟩:Addr).add j)=some v:=hsrc;go_wp2_with fail
   go_region_held3 (λ_=>True) (trivial)
    (first
     | (refine step_copy_splice rfl (.tmp 41) (.tmp 44) 48 48 rfl 3 Tryz.underlying48 hsz (some ⟨w0.heap.size,k,none⟩) (some ⟨w0.heap.size,0,none⟩) (n - k) (n - k) k n rfl rfl w0.heap.size k (Rep n k) 3 ?_ X2 (by rw [HL2.out];exact HC.out) ?_ (by rw [HL2.out,aaR hk];omega) Gv.out w0.heap.size w0 ?_ (zG _) ?_;exact hrowd;exact (λ_=>⟨rfl,_,rfl,YA⟩);exact hbd;intro w3 hg3 hb3)
     | fail)
   have hrow3:w3.heap[w0.heap.size]? = some (.cells (Rep n (k + c)).toArray 3 (0,0)):=by
    have h9:=hg3.out;rw [qU.out,aaS (by omega)] at h9;exact h9
   have HR3:=zC hrow3;clear hrow3 hg3 hrowd hsrc YA hbd;rw [HWX.out];go_wp2_with fail;go_roundw
   case rel=>exact ⟨k + c,rfl,by omega,(show n=0\/0 < k + c from .inr (by omega)),HR3.out,hb3⟩
   case measure=>simp [intOf];omega
  ·have hkn:k=n:=by omega
   have HR3:=zC (show di wr w0.heap.size (List.replicate n (-1)) by
    have h9:=hrow.out;rw [hkn,aik] at h9;exact h9)
   clear hkn;go_wp2_with fail;go_ret;exact ⟨⟨_,rfl,zG _,HR3.out⟩,hbr⟩
namespace K
def rowOf (nd:Int) (l:List Ro) (s:S) (r:List Q) (v:List Int) (t:List (List Int)) (m:Nat):List Int :=
 (List.range v.length).map λi=>if m.testBit i=true then label nd l s r v ((t[m - 2 ^ i]?).getD []) (m - 2 ^ i) i (req r ((v[i]?).getD 0)) else -1
def table (nd:Int) (l:List Ro) (s:S) (r:List Q) (v:List Int):Nat->List (List Int)
 | 0=>[]
 | M + 1=>table nd l s r v M ++ [rowOf nd l s r v (table nd l s r v M) M]
theorem vz (nd:Int) (l:List Ro) (s:S) (r:List Q) (v:List Int):∀ M,(table nd l s r v M).length=M
 | 0=>rfl
 | M + 1=>by simp [table,vz nd l s r v M]
theorem ajF {nd:Int} {l:List Ro} {s:S} {r:List Q} {v:List Int} {m M:Nat} (h:m<=M) {k:Nat} (hk:k < m):(table nd l s r v M)[k]? = (table nd l s r v m)[k]?:=by
 induction M with
 | zero=>rw [show m=0 by omega]
 | succ M ih =>
  by_cases e:m=M + 1
  ·rw [e]
  ·rw [table,List.getElem?_append_left (by rw [vz];omega)];exact ih (by omega)
theorem vw {nd:Int} {l:List Ro} {s:S} {r:List Q} {v:List Int} {m M:Nat} (h:m < M):(table nd l s r v M)[m]? = some (rowOf nd l s r v (table nd l s r v m) m):=by
 rw [ajF (m:=m + 1) (by omega) (by omega),table,List.getElem?_append_right (by rw [vz];omega),vz];simp
theorem uX (nd:Int) (l:List Ro) (s:S) (r:List Q) (v:List Int) (t:List (List Int)) (m:Nat):(rowOf nd l s r v t m).length=v.length:=by simp [rowOf]
theorem FO {nd:Int} {l:List Ro} {s:S} {r:List Q} {v:List Int} {t:List (List Int)} {m i:Nat} {j:Int} (hi:v[i]? = some j) :
  (rowOf nd l s r v t m)[i]? = some (if m.testBit i=true then label nd l s r v ((t[m - 2 ^ i]?).getD []) (m - 2 ^ i) i (req r j) else -1):=by
 obtain ⟨hk,e⟩:=zE.1 hi;subst e;simp [rowOf,hk]
theorem agm {nd:Int} {l:List Ro} {s:S} {r:List Q} {v row:List Int} {rest i:Nat} {q:Q} (hq:0<=q.service):-1<=label nd l s r v row rest i q/\label nd l s r v row rest i q<=1000000:=by
 unfold label labelOf;split
 ·decide
 ·split
  ·rename_i h
   obtain ⟨-,-,-,h1,h2,-,h3⟩:=tZ h;omega
  ·decide
theorem Ku {nd:Int} {l:List Ro} {s:S} {r:List Q} {v:List Int} {t:List (List Int)} {m:Nat} (hq:∀ i ∈ v,0<=(req r i).service):∀ x ∈ rowOf nd l s r v t m,-1<=x/\x<=1000000:=by
 intro x hx;obtain ⟨i,hi⟩:=List.mem_iff_getElem?.1 hx;have hil:i < v.length:=by
  have:=(zE.1 hi).1;rwa [uX] at this
 rw [FO (zF hil)] at hi;injection hi with hi;subst hi;split
 ·exact agm (hq _ (List.getElem_mem hil))
 ·decide
def upto (row:List Int) (i:Nat):List Int:=row.take i ++ List.replicate (row.length - i) (-1)
theorem aj2 (row:List Int):upto row 0=List.replicate row.length (-1):=by simp [upto]
theorem aj0 (row:List Int):upto row row.length=row:=by simp [upto]
theorem abY {row:List Int} {i:Nat} (h:i<=row.length):(upto row i).length=row.length:=by simp [upto];omega
theorem abZ {row:List Int} {i:Nat} {x:Int} (h:row[i]? = some x):(upto row i).set i x=upto row (i + 1):=by
 have hi:=(zE.1 h).1;apply List.ext_getElem?;intro k;rw [List.getElem?_set];unfold upto;rw [take_snoc h];by_cases hk:i=k
 ·subst hk;rw [if_pos rfl,if_pos (by simp;omega),List.getElem?_append_left (by simp;omega),List.getElem?_append_right (by simp;omega),show i - (row.take i).length=0 by simp;omega];rfl
 ·rw [if_neg hk];rcases Nat.lt_or_gt_of_ne hk with h1 | h1
  ·rw [List.getElem?_append_right (by simp;omega),List.getElem?_append_right (by simp;omega),List.getElem?_replicate,List.getElem?_replicate];simp only [List.length_take,List.length_append,List.length_singleton];have e1:min i row.length=i:=by omega
   rw [e1];by_cases h2:k < row.length
   ·rw [if_pos (by omega),if_pos (by omega)]
   ·rw [if_neg (by omega),if_neg (by omega)]
  ·rw [List.getElem?_append_left (by simp;omega),List.append_assoc,List.getElem?_append_left (by simp;omega)]
theorem aj1 {row:List Int} {i:Nat} (h:row[i]? = some (-1)):upto row i=upto row (i + 1):=by
 rw [<-abZ h];have hi:=(zE.1 h).1;apply List.ext_getElem?;intro k;rw [List.getElem?_set];by_cases hk:i=k
 ·subst hk;rw [if_pos rfl,if_pos (by rw [abY (by omega)];omega)];unfold upto;rw [List.getElem?_append_right (by simp;omega),List.getElem?_replicate,if_pos (by simp;omega)]
 ·rw [if_neg hk]
end K
theorem ac_:∀ m:Fin 64,∀ i:Fin 6,m.val.testBit i.val=true->(m.val - 2 ^ i.val) + 2 ^ i.val=m.val/\(m.val - 2 ^ i.val).testBit i.val=false:=by decide +kernel
theorem Hz {m i:Nat} (hm:m < 64) (hi:i < 6) (h:m.testBit i=true):(m - 2 ^ i) + 2 ^ i=m/\(m - 2 ^ i).testBit i=false:=ac_ ⟨m,hm⟩ ⟨i,hi⟩ h
theorem Tryz.info48:(Tryz.prog.info? 48).map (λi=>(i.zero,i.size,i.bytes))=some (some (.slice none 0 0),1,24):=by kernel_rfl
theorem JH (n:Nat) (hn:n<=1000000) (w:World):(Instr.makeSlice 97 (.int .i64 n) (.int .i64 n)).run Tryz.prog w=.ok (.slice (some ⟨w.heap.size,0,none⟩) n n) (w.alloc (.cells (List.replicate n (Value.slice none 0 0)).toArray 48)):=by
 have h:=run_make_row' (P:=Tryz.prog) 97 48 (.slice none 0 0) 24 Tryz.underlying97 Tryz.info48 rfl .i64 .i64 n (by omega) (by omega) w;rw [QH] at h;rw [h]
def xA (n N:Nat) (gs:List Nat):List Value:=gs.map (λg=>Value.slice (some ⟨g,0,none⟩) n n) ++ List.replicate (N - gs.length) (Value.slice none 0 0)
theorem RN {n N:Nat} {gs:List Nat} {m g:Nat} (h:gs[m]? = some g):(xA n N gs)[m]? = some (.slice (some ⟨g,0,none⟩) n n):=by
 have hk:=(zE.1 h).1;unfold xA;rw [List.getElem?_append_left (by simpa using hk),List.getElem?_map,h];rfl
theorem ajD {n N:Nat} {gs:List Nat} (h:gs.length < N):(xA n N gs)[gs.length]? = some (.slice none 0 0):=by
 unfold xA;rw [List.getElem?_append_right (by simp),List.getElem?_replicate,if_pos (by simp;omega)]
theorem ajE {n N:Nat} {gs:List Nat} (g:Nat) (h:gs.length < N):(xA n N gs).set gs.length (.slice (some ⟨g,0,none⟩) n n)=xA n N (gs ++ [g]):=by
 unfold xA;obtain ⟨d,hd⟩:∃ d,N - gs.length=d + 1:=⟨N - gs.length - 1,by omega⟩;rw [hd,List.set_append_right _ _ (by simp),List.length_map,Nat.sub_self,List.replicate_succ,List.set_cons_zero,List.map_append,List.append_assoc];simp only [List.length_append,List.length_singleton,List.map_cons,List.map_nil];rw [show N - (gs.length + 1)=d by omega];rfl
structure iq (w:World) (mb go:Nat) (p:PS) (N:Nat) (gs:List Nat) (rows:List (List Int)) (wr:World):Prop where
 grown:w.grownBy wr (some mb)
 memo:dH wr mb p.x.nd p.x.l (λg=>g=go\/g ∈ gs)
 outb:wr.heap[go]? = some (.cells (xA p.n N gs).toArray 48 (0,0))
 len:gs.length=rows.length
 row:∀ (m g:Nat) (row:List Int),gs[m]? = some g->rows[m]? = some row->di wr g row
 new:∀ g ∈ gs,w.heap.size<=g/\g ≠ go
 go:w.heap.size<=go
theorem iq.lt {w wr:World} {mb go N:Nat} {p:PS} {gs:List Nat} {rows:List (List Int)} (h:iq w mb go p N gs rows wr):∀ g,(g=go\/g ∈ gs)->g < wr.heap.size:=λg hg=>by
 rcases hg with rfl | hg
 ·exact lt_of_block h.outb
 ·obtain ⟨m,hm⟩:=List.mem_iff_getElem?.1 hg;have hl:m < rows.length:=by rw [<-h.len];exact (zE.1 hm).1
  exact (h.row m g _ hm (zF hl)).lt
theorem di.ext {w w':World} {g:Nat} {l:List Int} (h:di w g l) (hx:Ext w w'):di w' g l:=hx.cells _ _ _ _ h
theorem iq.went {w wr w':World} {b mb go N:Nat} {p:PS} {gs:List Nat} {rows:List (List Int)} (h:iq w mb go p N gs rows wr) (hw:jw wr w' b mb p (λg=>g=go\/g ∈ gs)):iq w mb go p N gs rows w':=by
 have hx:=h.memo.ext hw.1;exact ⟨grow_step h.grown hw.1 (.inl rfl),hw.2.memo,hx.cells _ _ _ _ h.outb,h.len,λm g row h1 h2=>(h.row m g row h1 h2).ext hx,h.new,h.go⟩
theorem iq.below {w wr w':World} {mb go N:Nat} {p:PS} {gs:List Nat} {rows:List (List Int)} (h:iq w mb go p N gs rows wr) (hb:Below wr.heap.size wr w'):iq w mb go p N gs rows w' :=
 ⟨fM h.grown hb,h.memo.below hb,az hb h.outb,h.len,λm g row h1 h2=>(h.row m g row h1 h2).ext (Ext.below hb),h.new,h.go⟩
theorem iq.pat {w wr:World} {b mb go N:Nat} {p:PS} {X:Nat->Prop} {gs:List Nat} {rows:List (List Int)} (h:iq w mb go p N gs rows wr) (hp:bP w b mb p X):bP wr b mb p (λg=>g=go\/g ∈ gs) :=
 (hp.more (Y:=λg=>g=go\/g ∈ gs) (λg hg hy=>by
  rcases hy with rfl | hy
  ·have:=h.go;omega
  ·have:=(h.new g hy).1;omega)).keep (hp.memo.ext h.grown) h.memo
theorem iq.push {w wr w1:World} {mb go N g:Nat} {p:PS} {gs:List Nat} {rows:List (List Int)} {row:List Int} (h:iq w mb go p N gs rows wr) (hb:Below wr.heap.size wr w1) (hg:wr.heap.size<=g) (hI:di w1 g row) (hN:gs.length < N) (hmb:mb < w.heap.size) :
  iq w mb go p N (gs ++ [g]) (rows ++ [row]) (w1.setCell ⟨go,gs.length,none⟩ (.slice (some ⟨g,0,none⟩) p.n p.n)):=by
 have h1:=h.below hb;have hgo:=lt_of_block h.outb;have hne:g ≠ go:=by omega
 have hm:dH w1 mb p.x.nd p.x.l (λk=>k=go\/k ∈ gs ++ [g]):=(h.memo.more (Y:=λk=>k=go\/k ∈ gs ++ [g]) (λk hk hy=>by
  rcases hy with rfl | hy
  ·exact .inl rfl
  ·rcases List.mem_append.1 hy with hy | hy
   ·exact .inr hy
   ·rw [List.mem_singleton.1 hy] at hk;omega)).below hb
 have hgm:go ≠ mb:=by have:=h.go;omega
 refine ⟨⟨h1.grown.os,h1.grown.tape,h1.grown.output,by rw [World.size_setCell];exact h1.grown.size,λk hk hne=>?_⟩,hm.set (.inl rfl) hgm _ _,?_,by simp [h.len],λm k r hm1 hm2=>?_,λk hk=>?_,h.go⟩
 ·exact (Below.heap_setCell w1 _ _ k (by have:=h.go;show k ≠ go;omega)).trans (h1.grown.block k hk hne)
 ·have h9:=bg h1.outb gs.length (.slice (some ⟨g,0,none⟩) p.n p.n);rw [h9,<-ajE g hN];simp
 ·have hoth:∀ k r,di w1 k r->k ≠ go->di (w1.setCell ⟨go,gs.length,none⟩ (.slice (some ⟨g,0,none⟩) p.n p.n)) k r:=λk r h9 hk=>(Below.heap_setCell w1 _ _ k (by show k ≠ go;exact hk)).trans h9;by_cases hml:m < gs.length
  ·rw [List.getElem?_append_left hml] at hm1;rw [List.getElem?_append_left (by rw [<-h.len];exact hml)] at hm2;exact hoth _ _ (h1.row m k r hm1 hm2) (h.new k (zD hm1)).2
  ·have hl:=(zE.1 hm1).1;simp at hl;have e:m=gs.length:=by omega
   subst e;rw [List.getElem?_append_right (zG _),Nat.sub_self] at hm1;rw [List.getElem?_append_right (by rw [h.len];omega),h.len,Nat.sub_self] at hm2;injection hm1 with hm1;injection hm2 with hm2;subst hm1 hm2;exact hoth _ _ hI hne
 ·rcases List.mem_append.1 hk with hk | hk
  ·exact h.new k hk
  ·rw [List.mem_singleton.1 hk];exact ⟨Nat.le_trans h.grown.size hg,hne⟩
theorem iq.store {w wr:World} {mb go N g i:Nat} {p:PS} {gs:List Nat} {rows:List (List Int)} {row:List Int} (x:Int) (h:iq w mb go p N (gs ++ [g]) (rows ++ [row]) wr) (hg:g ∉ gs) (hmb:mb < w.heap.size) :
  iq w mb go p N (gs ++ [g]) (rows ++ [row.set i x]) (wr.setCell ⟨g,i,none⟩ (.int .i64 x)):=by
 have hgn:=h.new g (by simp);have hlen:gs.length=rows.length:=by have:=h.len;simpa using this
 have hoth:∀ k r,di wr k r->k ≠ g->di (wr.setCell ⟨g,i,none⟩ (.int .i64 x)) k r:=λk r h9 hk=>(Below.heap_setCell wr _ _ k (by show k ≠ g;exact hk)).trans h9;refine ⟨⟨h.grown.os,h.grown.tape,h.grown.output,by rw [World.size_setCell];exact h.grown.size,λk hk hne=>?_⟩,h.memo.set (.inr (by simp)) (by omega) _ _,?_,by simpa using hlen,λm k r hm1 hm2=>?_,h.new,h.go⟩
 ·exact (Below.heap_setCell wr _ _ k (by show k ≠ g;omega)).trans (h.grown.block k hk hne)
 ·exact (Below.heap_setCell wr _ _ go (by show go ≠ g;exact λe=>hgn.2 e.symm)).trans h.outb
 ·by_cases hml:m < gs.length
  ·have X3:=hm1;rw [List.getElem?_append_left hml] at X3;rw [List.getElem?_append_left (by rw [<-hlen];exact hml)] at hm2;refine hoth _ _ (h.row m k r hm1 (by rw [List.getElem?_append_left (by rw [<-hlen];exact hml)];exact hm2)) (λe=>hg (by rw [<-e];exact zD X3))
  ·have hl:=(zE.1 hm1).1;simp at hl;have e:m=gs.length:=by omega
   subst e;rw [List.getElem?_append_right (zG _),Nat.sub_self] at hm1;rw [List.getElem?_append_right (by rw [hlen];omega),hlen,Nat.sub_self] at hm2;injection hm1 with hm1;injection hm2 with hm2;subst hm1 hm2;exact (h.row gs.length g row (by rw [List.getElem?_append_right (zG _),Nat.sub_self];rfl) (by rw [hlen,List.getElem?_append_right (zG _),Nat.sub_self];rfl)).set i x
def acG (w w':World) (mb:Nat) (p:PS) (N:Nat) (rows:List (List Int)) (e:Ending):Prop :=
 ∃ go gs,e=.returned (.slice (some ⟨go,0,none⟩) N N)/\iq w mb go p N gs rows w'
theorem agq (b mb:Nat) (p:PS) (N:Nat) (w:World) {X:Nat->Prop} (hp:bP w b mb p X) (hN:N=2 ^ p.n) :
  Calls Tryz.prog 129 #[.pointer (some ⟨b,0,none⟩)] w λe w'=>acG w w' mb p N (K.table p.x.nd p.x.l p.x.s p.x.r p.l N) e:=by
 obtain ⟨c0,c1,c2,c3,c4,c5,c6,c7,c8,c9,c10⟩:=hp.blk.cells;obtain ⟨hne,hck,hdp,hrq,bJ,hgo⟩:=K.fU hp.ok;have hset:=hp.set;have aK:=zC hset.1;have kH:p.n<=6:=by rw [hset.1];exact bJ
 have DT:N<=64:=by rw [hN];exact Nat.pow_le_pow_right (by omega) kH
 have hw1:IntKind.i64.wrap ((2:Int) ^ p.n)=(N:Int):=by rw [pz (by omega),hN];simp
 have hw2:wrap64 ((2:Int) ^ p.n)=(N:Int):=by rw [<-IntWalk.i64_left];exact hw1
 have hmk:=λw'=>JH N (by omega) w';have hmb:=hp.memo.lt;have HN:=zC hN;obtain ⟨go,PD⟩:=zB w.heap.size;have Jr:∀ i ∈ p.l,0<=(K.req p.x.r i).service:=λi hi=>by
  obtain ⟨k,hk⟩:=List.mem_iff_getElem?.1 hi;have hkn:k < p.n:=by rw [hset.1];exact (zE.1 hk).1
  obtain ⟨j,q,hel,-,hse,-⟩:=hp.elem hkn;have h1:=hel.set;rw [hk] at h1;injection h1 with h1;rw [h1,K.jH hel.req];exact hse.1
 have acr:=zC Jr;have qB:iq w mb go p N [] [] (w.alloc (.cells (List.replicate N (Value.slice none 0 0)).toArray 48)):=by
  have hb:Below w.heap.size w (w.alloc (.cells (List.replicate N (Value.slice none 0 0)).toArray 48)):=(Below.refl _ _).alloc (zG _) _;exact ⟨fM (ni w _) hb,(hp.memo.more (Y:=λg=>g=go\/g ∈ []) (λg hg hy=>by simp at hy;omega)).below hb,by rw [PD];exact heap_alloc_new _ _,rfl,λm g row h1 _=>by simp at h1,λg hg=>by simp at hg,by omega⟩
 have nZ:=zC PD;clear hne hck hdp hrq bJ hgo Jr hN PD;go_enter Tryz.func129,Tryz.ntmps129;go_wp2_with fail;rw [<-nZ.out];go_loopw [17] (λv17 wr=>∃ (M:Nat) (gs:List Nat),v17=.int .i64 M/\M<=N/\iq w mb go p N gs (K.table p.x.nd p.x.l p.x.s p.x.r p.l M) wr) (λv17 _=>N - (intOf v17).toNat)
 case atStart=>exact ⟨0,[],rfl,by omega,qB⟩
 case round =>
  clear qB c0 c1 c2 c3 c4 c5 c6 c7 c8 c9 c10 hmk hw1 hw2;obtain ⟨M,gs,rfl,hM,hT⟩:=hrel;have hgl:gs.length=M:=by rw [hT.len,K.vz]
  by_cases hlt:M < N
  ·have vK:=zC hgl;have k0:(0:Int)<=(M:Int):=by omega
   have k1:(M:Int) < (N:Int):=by omega
   have ha:Below wr.heap.size wr (wr.alloc (.cells #[.int .i64 (-1)] 3)):=(Below.refl _ _).alloc (zG _) _;have hsz:=ha.size;clear hgl;go_wp2_with fail;refine (aim wr.heap.size p.n kH _ (heap_alloc_new wr (.cells #[.int .i64 (-1)] 3))).mono ?_;rintro e w2 ⟨⟨g1,rfl,hg1,hI1⟩,hb2⟩;have hbw:=bel ha hb2;have hT2:=hT.below hbw;have f1:w2.cell? ⟨go,M,none⟩=some (.slice none 0 0):=by
    have h9:=ajD (n:=p.n) (N:=N) (gs:=gs) (by rw [vK.out];exact hlt);rw [vK.out] at h9;exact af hT2.outb M _ (by simpa using h9)
   have f2:=gI hT2.outb M;have iV:=hT.push hbw (Nat.le_trans hsz hg1) hI1 (by rw [vK.out];exact hlt) hmb;rw [vK.out] at iV;have ae9:g1 ∉ gs:=λhg=>by have:=hT.lt g1 (.inr hg);omega
   obtain ⟨row,hrow⟩:=zB (K.rowOf p.x.nd p.x.l p.x.s p.x.r p.l (K.table p.x.nd p.x.l p.x.s p.x.r p.l M) M);have TN:=zC hrow;have hrl:row.length=p.n:=by rw [hrow,K.uX,aK.out]
   have pJ:=zC hrl;have iV:iq w mb go p N (gs ++ [g1]) (K.table p.x.nd p.x.l p.x.s p.x.r p.l M ++ [K.upto row 0]) (w2.setCell ⟨go,M,none⟩ (.slice (some ⟨g1,0,none⟩) p.n p.n)):=by rw [K.aj2,hrl];exact iV
   clear hrow hrl hT2 hI1 ha hsz hg1;go_wp2_with fail;clear f1 f2;obtain ⟨w3,hw3⟩:=zB (w2.setCell ⟨go,M,none⟩ (.slice (some ⟨g1,0,none⟩) p.n p.n));rw [<-hw3] at iV ⊢;clear hw3;go_loopw [27] (λv27 wr=>∃ i:Nat,v27=.int .i64 i/\i<=p.n/\iq w mb go p N (gs ++ [g1]) (K.table p.x.nd p.x.l p.x.s p.x.r p.l M ++ [K.upto row i]) wr) (λv27 _=>p.n - (intOf v27).toNat)
   case atStart=>exact ⟨0,rfl,by omega,iV⟩
   case round =>
    clear iV;obtain ⟨i,rfl,hi,yO⟩:=hrel;by_cases qy:i < p.n
    ·obtain ⟨j,q,hel,hno,hse,-⟩:=hp.elem qy;have k2:(0:Int)<=(i:Int):=by omega
     have k3:(i:Int) < (p.n:Int):=by omega
     have iF:=K.FO (nd:=p.x.nd) (l:=p.x.l) (s:=p.x.s) (r:=p.x.r) (t:=K.table p.x.nd p.x.l p.x.s p.x.r p.l M) (m:=M) hel.set;rw [<-TN.out,K.jH hel.req] at iF;cases hbit:M.testBit i
     ·have hb1:bits BinOp.and IntKind.i64 ((M:Int) / 2 ^ i) 1=0:=by rw [lI (by omega) (by omega),hbit];rfl
      rw [hbit] at iF;have HU:=zC (show K.upto row i=K.upto row (i + 1) from K.aj1 (by simpa using iF));clear hbit iF;go_wp2_with fail;go_roundw
      case rel=>exact ⟨i + 1,by go_num,by omega,by rw [<-HU.out];exact yO⟩
      case measure=>simp [intOf];omega
     ·have hb1:bits BinOp.and IntKind.i64 ((M:Int) / 2 ^ i) 1=1:=by rw [lI (by omega) (by omega),hbit];rfl
      rw [hbit,if_pos rfl] at iF;obtain ⟨hre,hrb⟩:=Hz (by omega) (by omega) hbit;have hpw:=Nat.two_pow_pos i;obtain ⟨rest,hrest⟩:=zB (M - 2 ^ i);rw [<-hrest] at iF hre hrb;have Ez:rest < M:=by omega
      obtain ⟨rr,hrr⟩:∃ rr,(K.table p.x.nd p.x.l p.x.s p.x.r p.l M)[rest]? = some rr:=⟨_,K.vw Ez⟩;have P8:rr=K.rowOf p.x.nd p.x.l p.x.s p.x.r p.l (K.table p.x.nd p.x.l p.x.s p.x.r p.l rest) rest:=by
       have h9:=K.vw (nd:=p.x.nd) (l:=p.x.l) (s:=p.x.s) (r:=p.x.r) (v:=p.l) Ez;rw [hrr] at h9;injection h9
      rw [hrr,Option.getD_some] at iF;obtain ⟨g0,hg0⟩:∃ g0,gs[rest]? = some g0:=⟨_,zF (by rw [vK.out];exact Ez)⟩;have Yw:rr.length=p.l.length:=by rw [P8,K.uX]
      have afB:∀ t ∈ rr,-1<=t/\t<=1000000:=by rw [P8];exact K.Ku acr.out
      obtain ⟨x,hx⟩:=zB (K.label p.x.nd p.x.l p.x.s p.x.r p.l rr rest i q);rw [<-hx] at iF;have HU:=zC (K.abZ iF);have hTd:=yO.below (w':=wr.drew) (Below.refl _ _).drew;have kJ:=hTd.pat hp;have hg0':(gs ++ [g1])[rest]? = some g0:=by rw [List.getElem?_append_left (by rw [vK.out];exact Ez)];exact hg0
      have hc0:wr.drew.cell? ⟨go,rest,none⟩=some (.slice (some ⟨g0,0,none⟩) p.n p.n):=af hTd.outb rest _ (by simpa using RN (n:=p.n) (N:=N) hg0');have hI0:Ints wr.drew (some ⟨g0,0,none⟩) p.n rr:=by
       have h9:=(hTd.row rest g0 rr hg0' (by rw [List.getElem?_append_left (by rw [K.vz];exact Ez)];exact hrr)).ints;rw [Yw,<-aK.out] at h9;exact h9
      have hgM:(gs ++ [g1])[M]? = some g1:=by rw [List.getElem?_append_right (by rw [vK.out];omega),vK.out,Nat.sub_self];rfl
      have D5:∀ w' rows,iq w mb go p N (gs ++ [g1]) rows w'->w'.cell? ⟨go,M,none⟩=some (.slice (some ⟨g1,0,none⟩) p.n p.n):=λw' rows h=>af h.outb M _ (by simpa using RN (n:=p.n) (N:=N) hgM);have S0:=D5 _ _ yO;have aW:=D5 _ _ hTd;have CL:=agk b mb p go N N M rest i j q rr (some ⟨g0,0,none⟩) p.n p.n wr.drew kJ hTd.lt hel hno hse (by omega) hbit hre hrb hc0 (by omega) hI0 Yw afB;rw [<-hx] at CL;have Tm:=zC (λ(w5:World) (h5:iq w mb go p N (gs ++ [g1]) (K.table p.x.nd p.x.l p.x.s p.x.r p.l M ++ [K.upto row i]) w5)=>h5.row M g1 (K.upto row i) hgM (by rw [List.getElem?_append_right (by rw [K.vz];omega),K.vz,Nat.sub_self];rfl));have hil:i < (K.upto row i).length:=by rw [K.abY (by rw [pJ.out];omega),pJ.out];exact qy
      obtain ⟨y,hy⟩:∃ y,(K.upto row i)[i]? = some y:=⟨_,zF hil⟩;have HYI:=zC hy;clear hy hil;clear hbit hrr P8 hx iF hrest hg0 hg0' hgM hc0 hI0 hre hrb;go_wp2_with fail
      go_region_held3 (λw'=>w'.cell? ⟨go,M,none⟩=some (.slice (some ⟨g1,0,none⟩) p.n p.n))
       (first | assumption | exact S0 | exact aW)
       (first
        | (go_at_call 177;refine CL.mono ?_;rintro e w5 ⟨rfl,D7⟩;have dA:=hTd.went D7;have S5:=D5 _ _ dA;have f1:=(Tm.out w5 dA).cell HYI.out;have f2:=(Tm.out w5 dA).free i;have dR:=dA.store (i:=i) x ae9 hmb;have S6:=D5 _ _ dR)
        | fail)
      rw [HU.out] at dR;clear S0 aW S5 S6 f1 f2 dA hTd yO CL D5 kJ;go_wp2_with fail;go_roundw
      case rel=>exact ⟨i + 1,by go_num,by omega,dR⟩
      case measure=>simp [intOf];omega
    ·have hpi:i=p.n:=by omega
     have rO:iq w mb go p N (gs ++ [g1]) (K.table p.x.nd p.x.l p.x.s p.x.r p.l (M + 1)) wr:=by
      rw [hpi,<-pJ.out,K.aj0] at yO;rw [K.table,<-TN.out];exact yO
     clear yO hpi;go_wp2_with fail;go_roundw
     case rel=>exact ⟨M + 1,gs ++ [g1],by go_num,by omega,rO⟩
     case measure=>simp [intOf];omega
  ·have LC:=zC (show M=N by omega);rw [LC.out] at hT;go_wp2_with fail;go_ret;exact ⟨go,gs,rfl,hT⟩
structure Lb where
 set:Int
 last:Int
 time:Int
def jR (x:Lb):List Value:=[.int .i64 x.set,.int .i64 x.last,.int .i64 x.time]
abbrev dX (w:World) (A:Option Addr) (n:Nat) (l:List Lb):Prop:=aQ jR 3 w A n l
theorem dX.at_ {w:World} {A:Option Addr} {n k:Nat} {l:List Lb} (h:dX w A n l) (hk:k < n) :
  ∃ ad x,A=some ad/\l[k]? = some x/\w.cell? (ad.add (k * 3))=some (.int .i64 x.set)/\w.cell? ⟨(ad.add (k * 3)).block,(ad.add (k * 3)).off + 1,none⟩=some (.int .i64 x.last) /\
   w.cell? ⟨(ad.add (k * 3)).block,(ad.add (k * 3)).off + 2,none⟩=some (.int .i64 x.time):=by
 obtain ⟨ad,x,hA,hl,hc⟩:=aQ.get (f:=jR) (s:=3) (λ_=>rfl) h hk;refine ⟨ad,x,hA,hl,hc 0 _ (by omega) rfl,?_,?_⟩ <;> rw [<-lZ _ _ _ (by omega)]
 ·exact hc 1 _ (by omega) rfl
 ·exact hc 2 _ (by omega) rfl
theorem Tryz.info167:(Tryz.prog.info? 167).map (λi=>(i.zero,i.size,i.bytes))=some (some (.agg #[.int .i64 0,.int .i64 0,.int .i64 0]),3,24):=by kernel_rfl
theorem UF {ops:Array Oper} {rest:List Oper} {o:Oper} {a:Act} {Q:Exit->Act->World->Prop} {w:World} (hgd:o.guard=none) (s x:Operand)
  (ho:o.op=.call { callee:=.builtin .append,args:=#[s,x],argTypes:=#[88,88] })
  (base:Nat) (v:Value) (n:Nat) (l:List Lb) (hs:a.eval s=v) (hown:w.ownsRow base 167 3 v n (l.flatMap jR)) (g:Nat) (p q r:Int) (hx:a.eval x=.slice (some ⟨g,0,none⟩) 1 1)
  (hg:w.heap[g]? = some (.cells #[.int .i64 p,.int .i64 q,.int .i64 r] 167 (0,0))) (hn:n<=1000000) (hbase:base<=w.heap.size)
  (h:∀ v' w',w'.ownsRow base 167 3 v' (n + 1) ((l ++ [(⟨p,q,r⟩:Lb)]).flatMap jR)->w.grownBy w' v.ownBlock->(v'.ownBlock=v.ownBlock\/v'.ownBlock=some w.heap.size)->wpList Tryz.prog ops Q rest (a.put o.dst v') w') :
  wpList Tryz.prog ops Q (o :: rest) a w:=by
 obtain ⟨i0,hi,hz0,hz1,hz2⟩:=info_parts Tryz.info167;refine wpList_append_own_at w hgd s x 88 ho base 167 i0 (.agg #[.int .i64 0,.int .i64 0,.int .i64 0]) 3 24 Tryz.underlying88 hi hz0 hz1 hz2 rfl (by decide) v n (l.flatMap jR) hs hown ⟨g,0,none⟩ 1 1 [.int .i64 p,.int .i64 q,.int .i64 r] hx rfl ?_ ?_ ?_ ?_ hbase ?_
 ·intro j u hu;rw [jy];exact af hg j u (by simpa using hu)
 ·intro u hu;simp at hu;rcases hu with rfl | rfl | rfl <;> rfl
 ·simp only [maxLen];omega
 ·omega
 ·intro v' w' h2 h3 _ h5;exact h v' w' (by rw [List.flatMap_append];exact h2) h3 h5
namespace K
def dP (m:Nat) (row:List Int):Nat->List Lb
 | 0=>[]
 | i + 1=>dP m row i ++ if m.testBit i=true then [⟨m,i,(row[i]?).getD (-1)⟩] else []
def iI (n:Nat) (t:List (List Int)):Nat->List Lb
 | 0=>[]
 | M + 1=>iI n t M ++ dP M ((t[M]?).getD []) n
def aS (nd:Int) (l:List Ro) (s:S) (r:List Q) (v:List Int):List Lb:=if aP nd l s r v=true then iI v.length (table nd l s r v (2 ^ v.length)) (2 ^ v.length) else []
theorem Rl (m:Nat) (row:List Int):∀ i,(dP m row i).length<=i
 | 0=>zG _
 | i + 1=>by have:=Rl m row i;simp only [dP,List.length_append];split <;> simp <;> omega
theorem KG (n:Nat) (t:List (List Int)):∀ M,(iI n t M).length<=M * n
 | 0=>by simp [iI]
 | M + 1=>by
  have h1:=KG n t M;have h2:=Rl M ((t[M]?).getD []) n;simp only [iI,List.length_append,Nat.add_mul];omega
end K
def Ud (w w':World) (l:List Lb) (e:Ending):Prop:=(∃ A n c,e=.returned (.slice A n c)/\dX w' A n l)/\Below w.heap.size w w'
theorem bG {w:World} {base:Nat} {e:TypeId} {size n:Nat} {v:Value} {xs:List Value} (h:w.ownsRow base e size v n xs):∀ g,v.ownBlock=some g->base<=g/\g < w.heap.size:=by
 obtain ⟨-,-,-,-,h3⟩:=dh h;exact h3
def Ue (w w':World) (l:List Lb) (e:Ending):Prop:=(∃ A n c,e=.returned (.slice A n c)/\dX w' A n l/\∀ ad,A=some ad->w.heap.size<=ad.block)/\Below w.heap.size w w'
theorem Zb (x:C) (V:Option Addr) (vn vc:Nat) (v:List Int) (w:World) (hx:At w x) (hV:Ints w V vn v) (lg:vn<=vc) (hvn:vn<=1000000000) :
  Calls Tryz.prog 78 #[.agg #[.int .i64 x.nd,.slice x.A x.n x.c],.agg #[.int .i64 x.s.day,.int .i64 x.s.ag,.int .i64 x.s.start,.int .i64 x.s.end_,.int .i64 x.s.aj,.slice x.s.A x.s.n x.s.c],.slice x.B x.m x.d,.slice V vn vc] w λe w'=>Ue w w' (K.aS x.nd x.l x.s x.r v) e:=by
 obtain ⟨w0,hw0⟩:=zB ((w.alloc (.cells #[.int .i64 x.nd,.slice x.A x.n x.c] 24)).alloc (.cells #[.int .i64 x.s.day,.int .i64 x.s.ag,.int .i64 x.s.start,.int .i64 x.s.end_,.int .i64 x.s.aj,.slice x.s.A x.s.n x.s.c] 63));have b0:Below w.heap.size w w0:=by rw [hw0];exact bel ((Below.refl _ _).alloc (zG _) _) ((Below.refl _ _).alloc (zG _) _)
 go_enter Tryz.func78,Tryz.ntmps78;go_wp2_with fail;rw [<-hw0];clear hw0;refine (Q_ x V vn vc v _ (hx.below b0) (hV.below b0) lg hvn).mono ?_;rintro e w1 ⟨hret,b1⟩;have hb:=bel b0 b1;have hsz:=b0.size;rcases hret with ⟨hok,rfl⟩ | ⟨b,mb,rfl,hbb,hbm,hP⟩
 ·have HX:=zC (show K.aS x.nd x.l x.s x.r v=[] by simp [K.aS,hok]);clear hok;go_wp2_with fail;go_ret;exact ⟨⟨none,0,0,rfl,by rw [HX.out];exact ⟨rfl,rfl,λh=>absurd h (by omega)⟩,λad e=>(nomatch e)⟩,hb⟩
 ·have hp:=hP (λ_=>False);clear hP;have Oo:=hV.1;have hv6:=(K.fU hp.ok).2.2.2.2.1;dsimp only at hv6;obtain ⟨N,hN⟩:∃ N,N=2 ^ vn:=⟨_,rfl⟩;have DT:N<=64:=by rw [hN];exact Nat.pow_le_pow_right (by omega) (show vn<=6 by omega)
  have HX:=zC (show K.aS x.nd x.l x.s x.r v=K.iI vn (K.table x.nd x.l x.s x.r v N) N by unfold K.aS;rw [if_pos hp.ok,hN,Oo]);have afP:vn<=6:=by omega
  have aK:=zC Oo;have CL:=agq b mb ⟨x,V,vn,vc,v⟩ N w1 hp hN;clear hN Oo hv6;go_wp2_with fail;refine CL.mono ?_;rintro e w2 ⟨go,gs,rfl,hT⟩;have hb2:Below w.heap.size w w2:=a_ hb hT.grown (λg e=>by injection e with e;omega);have hTl:∀ M,M < N->∃ g row,gs[M]? = some g/\(K.table x.nd x.l x.s x.r v N)[M]? = some row/\row.length=vn/\di w2 g row/\w2.cell? ⟨go,M,none⟩=some (.slice (some ⟨g,0,none⟩) vn vn):=λM hM=>by
   have hgl:gs.length=N:=by rw [hT.len,K.vz]
   obtain ⟨g,hg⟩:∃ g,gs[M]? = some g:=⟨_,zF (by omega)⟩;have hr:=K.vw (nd:=x.nd) (l:=x.l) (s:=x.s) (r:=x.r) (v:=v) hM;exact ⟨g,_,hg,hr,by rw [K.uX,aK.out],hT.row M g _ hg hr,af hT.outb M _ (by simpa using RN (n:=vn) (N:=N) hg)⟩
  clear hT CL hp b1 b0;go_wp2_with fail;go_loopw [11,29] (λv11 v29 wr=>∃ M:Nat,v29=.int .i64 M/\M<=N/\wr.ownsRow w2.heap.size 167 3 v11 (K.iI vn (K.table x.nd x.l x.s x.r v N) M).length ((K.iI vn (K.table x.nd x.l x.s x.r v N) M).flatMap jR)/\Below w2.heap.size w2 wr) (λ_ v29 _=>N - (intOf v29).toNat)
  case atStart=>exact ⟨0,rfl,by omega,World.ownsRow_nil _ _ _ _,Below.refl _ _⟩
  case round =>
   obtain ⟨M,rfl,hM,hown,hbr⟩:=hrel;by_cases hlt:M < N
   ·obtain ⟨g,row,-,htr,hrl,hI,hc⟩:=hTl M hlt;have HM1:=zC (show K.iI vn (K.table x.nd x.l x.s x.r v N) (M + 1)=K.iI vn (K.table x.nd x.l x.s x.r v N) M ++ K.dP M row vn by rw [K.iI,htr];rfl);have hlen:=K.KG vn (K.table x.nd x.l x.s x.r v N) M;have hlen2:M * vn<=64 * 6:=Nat.mul_le_mul (by omega) afP;have hcr:=(hbr.cell (cell_lt hc)).trans hc;have k0:(0:Int)<=(M:Int):=by omega
    have k1:(M:Int) < (N:Int):=by omega
    have pJ:=zC hrl;obtain ⟨L0,hL0⟩:=zB (K.iI vn (K.table x.nd x.l x.s x.r v N) M);rw [<-hL0] at hown hlen;have Lp:=zC hL0;clear htr hc hrl hL0;go_wp2_with fail;go_loopw [11,36] (λv11 v36 wi=>∃ i:Nat,v36=.int .i64 i/\i<=vn/\wi.ownsRow w2.heap.size 167 3 v11 (L0 ++ K.dP M row i).length ((L0 ++ K.dP M row i).flatMap jR)/\Below w2.heap.size w2 wi) (λ_ v36 _=>vn - (intOf v36).toNat)
    case atStart=>exact ⟨0,rfl,by omega,by rw [K.dP,List.append_nil];exact hown,hbr⟩
    case round =>
     clear hown hcr hbr;obtain ⟨i,rfl,hi,hown,hbr⟩:=hrel;by_cases qy:i < vn
     ·obtain ⟨y,hy⟩:∃ y,row[i]? = some y:=⟨_,zF (by rw [pJ.out];exact qy)⟩;have cy:=(hbr.cell (cell_lt (hI.cell hy))).trans (hI.cell hy);have k2:(0:Int)<=(i:Int):=by omega
      have k3:(i:Int) < (vn:Int):=by omega
      have hlr:=K.Rl M row i;cases hbit:M.testBit i
      ·have hb1:bits BinOp.and IntKind.i64 ((M:Int) / 2 ^ i) 1=0:=by rw [lI (by omega) (by omega),hbit];rfl
       have HU:=zC (show K.dP M row (i + 1)=K.dP M row i by rw [K.dP,hbit];simp);clear hbit hy;go_wp2_with fail;go_roundw
       case rel=>exact ⟨i + 1,by go_num,by omega,by rw [HU.out];exact hown,hbr⟩
       case measure=>simp [intOf];omega
      ·have hb1:bits BinOp.and IntKind.i64 ((M:Int) / 2 ^ i) 1=1:=by rw [lI (by omega) (by omega),hbit];rfl
       have HU:=zC (show L0 ++ K.dP M row (i + 1)=(L0 ++ K.dP M row i) ++ [⟨M,i,y⟩] by rw [K.dP,hbit,if_pos rfl,hy,Option.getD_some,List.append_assoc]);have ha:Below wr.heap.size wr (wr.alloc (.cells #[.int .i64 (M:Int),.int .i64 (i:Int),.int .i64 y] 167)):=(Below.refl _ _).alloc (zG _) _;have hown2:=own_below hown ha;have hs2:w2.heap.size<=(wr.alloc (.cells #[.int .i64 (M:Int),.int .i64 (i:Int),.int .i64 y] 167)).heap.size:=Nat.le_trans hbr.size ha.size;have hln:(L0 ++ K.dP M row i).length<=1000000:=by rw [List.length_append];omega
       clear hbit hy;go_wp2_with (at_builtin;refine UF rfl (.tmp 46) (.tmp 51) rfl w2.heap.size u11 (L0 ++ K.dP M row i).length (L0 ++ K.dP M row i) rfl hown2 wr.heap.size M i y rfl (bI _ _ _ rfl) hln hs2 ?_;intro tv' w6 hown6 hgrow6 gW);have b6:=a_ (bel hbr ha) hgrow6 (λg e=>(hown.lt g e).1);have HS:=zC (show (L0 ++ K.dP M row i).length + 1=(L0 ++ K.dP M row (i + 1)).length by rw [HU.out,List.length_append (bs:=[_])];rfl);rw [<-HU.out,HS.out] at hown6;clear hgrow6 gW hown2 hown;go_roundw
       case rel=>exact ⟨i + 1,by go_num,by omega,hown6,b6⟩
       case measure=>simp [intOf];omega
     ·have hin:i=vn:=by omega
      rw [hin] at hown;have Lt:=zC HM1.out;rw [Lp.out,<-Lt.out] at hown;clear hin;go_wp2_with fail;go_roundw
      case rel=>exact ⟨M + 1,by go_num,by omega,hown,hbr⟩
      case measure=>simp [intOf];omega
   ·have WI:M=N:=by omega
    rw [WI] at hown;have Et:=bG hown;obtain ⟨A9,c9,rfl,jO,-⟩:=dh hown;have PV:∀ ad,A9=some ad->w.heap.size<=ad.block:=λad e=>(by have h1:=(Et ad.block (by rw [e];rfl)).1;have h2:=hb2.size;omega);clear Et;clear WI;go_wp2_with fail;go_ret;exact ⟨⟨_,_,_,rfl,by rw [HX.out];exact ⟨rfl,jO⟩,PV⟩,bel hb2 hbr⟩
theorem agn (x:C) (V:Option Addr) (vn vc:Nat) (v:List Int) (w:World) (hx:At w x) (hV:Ints w V vn v) (lg:vn<=vc) (hvn:vn<=1000000000) :
  Calls Tryz.prog 78 #[.agg #[.int .i64 x.nd,.slice x.A x.n x.c],.agg #[.int .i64 x.s.day,.int .i64 x.s.ag,.int .i64 x.s.start,.int .i64 x.s.end_,.int .i64 x.s.aj,.slice x.s.A x.s.n x.s.c],.slice x.B x.m x.d,.slice V vn vc] w λe w'=>Ud w w' (K.aS x.nd x.l x.s x.r v) e :=
 (Zb x V vn vc v w hx hV lg hvn).mono λ_ _ ⟨⟨A,n,c,h1,h2,_⟩,hb⟩=>⟨⟨A,n,c,h1,h2⟩,hb⟩
theorem Lb.eq_iff {a b:Lb}:a=b ↔ a.set=b.set/\a.last=b.last/\a.time=b.time:=by
 cases a;cases b;simp
instance:DecidableEq Lb:=λ_ _=>decidable_of_iff _ Lb.eq_iff.symm
theorem abV {la lb:List Lb} {k:Nat} {x y:Lb} (hx:la[k]? = some x) (hy:lb[k]? = some y) (h:la.take k=lb.take k):la.take (k + 1)=lb.take (k + 1) ↔ x=y:=by
 rw [take_snoc hx,take_snoc hy,h];simp
theorem ad9 (A B:Option Addr) (n m c d:Nat) (la lb:List Lb) (w:World) (hla:dX w A n la) (hlb:dX w B m lb) (hn:n<=1000000000) (hm:m<=1000000000) :
  Calls Tryz.prog 138 #[.slice A n c,.slice B m d] w λe w'=>e=.returned (.bool (decide (la=lb)))/\Below w.heap.size w w':=by
 by_cases hnm:n=m
 ·obtain rfl:=hnm;go_enter Tryz.func138,Tryz.ntmps138;go_wp2_with fail;go_loopw [13] (λvi wr=>∃ k:Nat,vi=.int .i64 k/\k<=n/\Hid (la.take k=lb.take k)/\Below w.heap.size w wr) (λvi _=>n - (intOf vi).toNat)
  case atStart=>exact ⟨0,rfl,by omega,rfl,Below.refl _ _⟩
  case round =>
   obtain ⟨k,rfl,hk,hr,hb⟩:=hrel;by_cases hlt:k < n
   ·obtain ⟨ad,o,rfl,hg,c0,c1,c2⟩:=dX.at_ (aQ.below hla hb) hlt;obtain ⟨jL,o2,rfl,hg2,d0,d1,d2⟩:=dX.at_ (aQ.below hlb hb) hlt;have HN:=zC (abV hg hg2 hr.out);have k0:(0:Int)<=(k:Int):=by omega
    have k1:(k:Int) < (n:Int):=by omega
    clear hg hg2;cases e1:(o.set == o2.set)
    ·have HX:=zC (λh=>(show ¬ o=o2 from λe=>by rw [e] at e1;simp at e1) (HN.out.1 h));go_wp2_with fail;go_quiet (fail);go_wp2_with fail;go_ret;exact ⟨ay (Eq.symm (zI (λh=>HX.out (by rw [h])))),below_drewN hb _⟩
    cases e2:(o.last == o2.last)
    ·have HX:=zC (λh=>(show ¬ o=o2 from λe=>by rw [e] at e2;simp at e2) (HN.out.1 h));go_wp2_with fail;go_quiet (fail);go_wp2_with fail;go_ret;exact ⟨ay (Eq.symm (zI (λh=>HX.out (by rw [h])))),below_drewN hb _⟩
    cases e3:(o.time == o2.time)
    ·have HX:=zC (λh=>(show ¬ o=o2 from λe=>by rw [e] at e3;simp at e3) (HN.out.1 h));go_wp2_with fail;go_quiet (fail);go_wp2_with fail;go_ret;exact ⟨ay (Eq.symm (zI (λh=>HX.out (by rw [h])))),below_drewN hb _⟩
    have HX:=zC (HN.out.2 (Lb.eq_iff.2 ⟨by simpa using e1,by simpa using e2,by simpa using e3⟩));go_wp2_with fail;go_quiet (fail);go_wp2_with fail;go_roundw
    case rel=>exact ⟨k + 1,by go_num,by omega,HX.out,below_drewN hb _⟩
    case measure=>simp [intOf];omega
   ·have HX:=zC (show la=lb by
     have h:=hr.out;rw [List.take_of_length_le (by rw [<-hla.1];omega),List.take_of_length_le (by rw [<-hlb.1];omega)] at h;exact h)
    go_wp2_with fail;go_ret;exact ⟨ay (Eq.symm (zH HX.out)),hb⟩
 ·have HX:=zC (show ¬ la=lb from λh=>hnm (by rw [hla.1,hlb.1,h]));have q1:(((n:Nat):Int) != ((m:Nat):Int))=true:=by simp;omega
  go_enter Tryz.func138,Tryz.ntmps138;go_wp2_with fail;go_ret;exact ⟨ay (Eq.symm (zI HX.out)),Below.refl _ _⟩
end Go.Proofs.YtippdjmpkafifaaGreat
