import Derived.Test.YtippdjmpkafifaaGreatCR17
import Derived.Test.YtippdjmpkafifaaGreatCR6
import Derived.Test.YtippdjmpkafifaaGreatCR7
set_option maxRecDepth 100000
set_option maxHeartbeats 64000000
namespace Go.Proofs.YtippdjmpkafifaaGreat
open Go.RowKit
theorem YA {nd:Int} {l:List Ro} {s:S} {r:List Q} {v:ag} (hok:K.bF nd l s r v=true) {i:Nat} {k:Int} (h:v[i]? = some k) :
  ∃ (d dn:Nat) (q:Q),k=(d:Int)/\d < r.length/\r[d]? = some q/\K.req r k=q/\q.node=(dn:Int)/\(dn:Int) < nd/\0<=q.service/\q.service<=1000000:=by
 obtain ⟨-,-,-,hrq,-,hgo⟩:=K.jl hok;obtain ⟨h0,h1,h3⟩:=K.Jl _ _ hgo _ (zD h);obtain ⟨d,hd⟩:∃ d:Nat,k=(d:Int):=⟨k.toNat,by omega⟩;subst hd;have hq:r[d]? = some (r[d]'(by omega)):=zF (by omega);obtain ⟨hn,hs,-⟩:=K.Dl (hrq _ (zD hq));rw [K.lZ hq] at h3;exact ⟨d,(r[d]'(by omega)).node.toNat,_,rfl,by omega,hq,K.lZ hq,by omega,by omega,hs.1,hs.2⟩
theorem aip (x:C) (V:aj) (vn vc:Nat) (v:ag) (A:aj) (tn tc:Nat) (ts:ag) (m i P rest:Nat) (w:World) (hok:K.bF x.nd x.l x.s x.r v=true) (hx:At w x) (hV:Ints w V vn v) (hT:Ints w A tn ts)
  (Ed:P=2 ^ i) (hrest:rest=m - P) (ZB:P<=m) (hm:m < 64) (hml:m < 2 ^ v.length) (hi:i < vn) (hbit:m.testBit i=true)
  (hts:∀ j,j < vn->∃ y,ts[rest * 6 + j]? = some y/\(rest.testBit j=true->y=K.lab x.nd x.l x.s x.r v rest j)) :
  ay 133 #[.agg #[.int .i64 x.nd,.slice x.A x.n x.c],fG x.s,.slice x.B x.m x.d,.slice V vn vc,.slice A tn tc,.int .i64 m,.int .i64 i] w (og w (K.lab x.nd x.l x.s x.r v m i)):=by
 have iR:=zC hV.1;have hv6:vn<=6:=by rw [hV.1];exact (K.jl hok).2.2.2.2.1
 have ML:i < 8:=by omega
 have HW3:=zC (show IntKind.i64.wrap ((2:Int) ^ i)=(P:Int) by rw [sG ML,Ed];simp);obtain ⟨jJ,k,rfl,hk,ck⟩:=hV.at_ hi;have hlab:=K.ain (nd:=x.nd) (l:=x.l) (s:=x.s) (r:=x.r) (K.ru hok) hml hk hbit;rw [<-Ed,<-hrest] at hlab;clear Ed;obtain ⟨d,dn,q,hkd,hd,Eo,Cj,hdn,Ti,qs0,qs1⟩:=YA hok hk;rw [Cj,hdn,<-K.akq] at hlab;obtain ⟨F,hF⟩:=zB (K.qK x.nd x.l x.s x.r v rest (dn:Int));have HF:=zC hF;have hFb:=K.aiO (nd:=x.nd) (l:=x.l) (s:=x.s) (r:=x.r) (v:=v) (K.ru hok) (by obtain ⟨-,-,-,st1,tC⟩:=K.tu (K.jl hok).2.1;omega) rest (dn:Int);rw [<-hF] at hlab hFb;have JJ:=zC hlab;subst hkd;have hdm:d < x.m:=by rw [hx.bf.1];exact hd
 obtain ⟨uT,q2,vJ,hgq,hwq,e0,e1,e2,e3,e4,e5,e6⟩:=hx.bf.at_ hdm;rw [Eo] at hgq;injection hgq with hgq;subst hgq;rw [hdn] at e0;obtain ⟨w1,hw1⟩:=zB (w.alloc (.cells #[.int .i64 x.nd,.slice x.A x.n x.c] 24));obtain ⟨w2,hw2⟩:=zB (w1.alloc (.cells #[.int .i64 x.s.day,.int .i64 x.s.ax,.int .i64 x.s.start,.int .i64 x.s.end_,.int .i64 x.s.aU,.slice x.s.A x.s.n x.s.c] 63));obtain ⟨w3,hw3⟩:=zB (w2.alloc (.cells #[.int .i64 (dn:Int),.int .i64 q.room,.int .i64 q.a_,.int .i64 q.service,.int .i64 q.aI,.int .i64 q.aP,.slice q.A q.n q.c] 47));have z1:w1.heap.size=w.heap.size + 1:=by rw [hw1];exact aF _ _
 have z2:w2.heap.size=w.heap.size + 1 + 1:=by rw [hw2,aF,z1]
 have b01:=aH hw1;have b12:=aH hw2;have bQ:=aH hw3;have hP:Net w3 w.heap.size x.nd x.A x.n x.c:=by
  have h1:Net w1 w.heap.size x.nd x.A x.n x.c:=by rw [hw1];exact Net.new _ _ _ _ _
  exact h1.below (bel b12 bQ)
 have hS:bI w3 (w.heap.size + 1) x.s:=by
  have h1:bI w2 (w.heap.size + 1) x.s:=by rw [<-z1,hw2];exact bI.new _ _
  exact h1.below bQ
 have tY:w3.heap[w.heap.size + 1 + 1]? = some (.cells #[.int .i64 (dn:Int),.int .i64 q.room,.int .i64 q.a_,.int .i64 q.service,.int .i64 q.aI,.int .i64 q.aP,.slice q.A q.n q.c] 47 (0,0)):=by rw [<-z2,hw3];exact aA _ _
 have b02:=bel b01 b12;have hb:=bel b02 bQ;have ck:=(b02.cell (cell_lt ck)).trans ck;have e0:=(b02.cell (cell_lt e0)).trans e0;have e1:=(b02.cell (cell_lt e1)).trans e1;have e2:=(b02.cell (cell_lt e2)).trans e2;have e3:=(b02.cell (cell_lt e3)).trans e3;have e4:=(b02.cell (cell_lt e4)).trans e4;have e5:=(b02.cell (cell_lt e5)).trans e5;have e6:=(b02.cell (cell_lt e6)).trans e6;rw [hw2,hw1] at ck e0 e1 e2 e3 e4 e5 e6;have aY:=zC hok;have nZ:=zC hts;have HWQ:=zC hwq;have FP:=zC (hx.b4 q (zD Eo));have wI:=zC vJ;have nH:=zC (show IntKind.i64.wrap ((m:Int) - (P:Int))=(rest:Int) by rw [dh _ (by omega)];omega);have ahT:rest < 64:=by omega
 obtain ⟨UC,kk4⟩:=zJ (a:=i) (b:=vn) (by omega);obtain ⟨kk5,kk6⟩:=zJ (a:=d) (b:=x.m) (by omega);rw [vJ];clear hok hts hwq hk hlab hd Eo Cj hdn hF vJ hrest ZB hml hbit hdm b01 b12 b02 z1 z2;go_enter Tryz.func133,Tryz.ntmps133;go_upto_region 2 with fail;rw [<-hw1,<-hw2,<-hw3];clear hw1 hw2 hw3 ck e0 e1 e2 e3 e4 e5 e6 kk5 kk6;have hmk:∀ w',af w3 w'->(λw':World=>af w3 w'/\w'.cell? ⟨w.heap.size,0,none⟩=some (.int .i64 x.nd)/\w'.cell? ⟨w.heap.size,1,none⟩=some (.slice x.A x.n x.c)/\w'.cell? ⟨w.heap.size + 1,0,none⟩=some (.int .i64 x.s.day)/\w'.cell? ⟨w.heap.size + 1,1,none⟩=some (.int .i64 x.s.ax)/\w'.cell? ⟨w.heap.size + 1,2,none⟩=some (.int .i64 x.s.start)/\w'.cell? ⟨w.heap.size + 1,3,none⟩=some (.int .i64 x.s.end_)/\w'.cell? ⟨w.heap.size + 1,4,none⟩=some (.int .i64 x.s.aU)/\w'.cell? ⟨w.heap.size + 1,5,none⟩=some (.slice x.s.A x.s.n x.s.c)/\w'.cell? ⟨w.heap.size + 1 + 1,0,none⟩=some (.int .i64 (dn:Int))/\w'.cell? ⟨w.heap.size + 1 + 1,1,none⟩=some (.int .i64 q.room)/\w'.cell? ⟨w.heap.size + 1 + 1,2,none⟩=some (.int .i64 q.a_)/\w'.cell? ⟨w.heap.size + 1 + 1,3,none⟩=some (.int .i64 q.service)/\w'.cell? ⟨w.heap.size + 1 + 1,4,none⟩=some (.int .i64 q.aI)/\w'.cell? ⟨w.heap.size + 1 + 1,5,none⟩=some (.int .i64 q.aP)/\w'.cell? ⟨w.heap.size + 1 + 1,6,none⟩=some (.slice q.A q.n q.c)) w':=λw' h=>⟨h,(hP.below h).c0,(hP.below h).c1,(hS.below h).cells.1,(hS.below h).cells.2.1,(hS.below h).cells.2.2.1,(hS.below h).cells.2.2.2.1,(hS.below h).cells.2.2.2.2.1,(hS.below h).cells.2.2.2.2.2,ah (au h tY) 0 _ rfl,ah (au h tY) 1 _ rfl,ah (au h tY) 2 _ rfl,ah (au h tY) 3 _ rfl,ah (au h tY) 4 _ rfl,ah (au h tY) 5 _ rfl,ah (au h tY) 6 _ rfl⟩;obtain ⟨-,p0,p1,s0,s1,s2,s3,s4,s5,q0,q1,q2,q3,q4,q5,q6⟩:=hmk _ ai;by_cases h1:x.s.day < q.aI
 ·have c1:decide (x.s.day < q.aI)=true:=zH h1;have HX:=zC (show K.lab x.nd x.l x.s x.r v m i=-1 by rw [JJ.out];unfold K.Jd;rw [if_pos (.inl h1)]);clear hmk h1;go_quiet (fail);go_wp2_with fail;go_ret;exact ⟨by rw [HX.out];rfl,below_drewN hb _⟩
 have c1:decide (x.s.day < q.aI)=false:=zI h1;by_cases h2:q.aP < x.s.day
 ·have c2:decide (q.aP < x.s.day)=true:=zH h2;have HX:=zC (show K.lab x.nd x.l x.s x.r v m i=-1 by rw [JJ.out];unfold K.Jd;rw [if_pos (.inr (.inl h2))]);clear hmk h1 h2;go_quiet (fail);go_wp2_with fail;go_ret;exact ⟨by rw [HX.out];rfl,below_drewN hb _⟩
 have c2:decide (q.aP < x.s.day)=false:=zI h2;clear p0 p1 s0 s1 s2 s3 s4 s5 q0 q1 q2 q3 q4 q5 q6;have S0:=hmk _ ai;have hSd:∀ w',(λw':World=>af w3 w'/\w'.cell? ⟨w.heap.size,0,none⟩=some (.int .i64 x.nd)/\w'.cell? ⟨w.heap.size,1,none⟩=some (.slice x.A x.n x.c)/\w'.cell? ⟨w.heap.size + 1,0,none⟩=some (.int .i64 x.s.day)/\w'.cell? ⟨w.heap.size + 1,1,none⟩=some (.int .i64 x.s.ax)/\w'.cell? ⟨w.heap.size + 1,2,none⟩=some (.int .i64 x.s.start)/\w'.cell? ⟨w.heap.size + 1,3,none⟩=some (.int .i64 x.s.end_)/\w'.cell? ⟨w.heap.size + 1,4,none⟩=some (.int .i64 x.s.aU)/\w'.cell? ⟨w.heap.size + 1,5,none⟩=some (.slice x.s.A x.s.n x.s.c)/\w'.cell? ⟨w.heap.size + 1 + 1,0,none⟩=some (.int .i64 (dn:Int))/\w'.cell? ⟨w.heap.size + 1 + 1,1,none⟩=some (.int .i64 q.room)/\w'.cell? ⟨w.heap.size + 1 + 1,2,none⟩=some (.int .i64 q.a_)/\w'.cell? ⟨w.heap.size + 1 + 1,3,none⟩=some (.int .i64 q.service)/\w'.cell? ⟨w.heap.size + 1 + 1,4,none⟩=some (.int .i64 q.aI)/\w'.cell? ⟨w.heap.size + 1 + 1,5,none⟩=some (.int .i64 q.aP)/\w'.cell? ⟨w.heap.size + 1 + 1,6,none⟩=some (.slice q.A q.n q.c)) w'->(λw':World=>af w3 w'/\w'.cell? ⟨w.heap.size,0,none⟩=some (.int .i64 x.nd)/\w'.cell? ⟨w.heap.size,1,none⟩=some (.slice x.A x.n x.c)/\w'.cell? ⟨w.heap.size + 1,0,none⟩=some (.int .i64 x.s.day)/\w'.cell? ⟨w.heap.size + 1,1,none⟩=some (.int .i64 x.s.ax)/\w'.cell? ⟨w.heap.size + 1,2,none⟩=some (.int .i64 x.s.start)/\w'.cell? ⟨w.heap.size + 1,3,none⟩=some (.int .i64 x.s.end_)/\w'.cell? ⟨w.heap.size + 1,4,none⟩=some (.int .i64 x.s.aU)/\w'.cell? ⟨w.heap.size + 1,5,none⟩=some (.slice x.s.A x.s.n x.s.c)/\w'.cell? ⟨w.heap.size + 1 + 1,0,none⟩=some (.int .i64 (dn:Int))/\w'.cell? ⟨w.heap.size + 1 + 1,1,none⟩=some (.int .i64 q.room)/\w'.cell? ⟨w.heap.size + 1 + 1,2,none⟩=some (.int .i64 q.a_)/\w'.cell? ⟨w.heap.size + 1 + 1,3,none⟩=some (.int .i64 q.service)/\w'.cell? ⟨w.heap.size + 1 + 1,4,none⟩=some (.int .i64 q.aI)/\w'.cell? ⟨w.heap.size + 1 + 1,5,none⟩=some (.int .i64 q.aP)/\w'.cell? ⟨w.heap.size + 1 + 1,6,none⟩=some (.slice q.A q.n q.c)) w'.drew:=λw' h=>hmk _ h.1.drew;have nN:∀ w',af w3 w'->Ints w' (some jJ) vn v:=λw' h=>(hV.below hb).below h;have uh:∀ w',af w3 w'->At w' x:=λw' h=>(hx.below hb).below h;have hAr:∀ w',af w3 w'->Ints w' x.s.A x.s.n x.s.l:=λw' h=>(uh w' h).gW;have GI:∀ w',af w3 w'->dm w' (some uT) x.m x.r:=λw' h=>by rw [<-wI.out];exact (uh w' h).bf
 have Ie:m < 256:=by omega
 have vK:vn<=8:=by omega
 have hpl:(K.part v m).length<=1000000000:=by have h1:=K.qM v m;rw [<-iR.out] at h1;omega
 go_region_held3 (λw':World=>af w3 w'/\w'.cell? ⟨w.heap.size,0,none⟩=some (.int .i64 x.nd)/\w'.cell? ⟨w.heap.size,1,none⟩=some (.slice x.A x.n x.c)/\w'.cell? ⟨w.heap.size + 1,0,none⟩=some (.int .i64 x.s.day)/\w'.cell? ⟨w.heap.size + 1,1,none⟩=some (.int .i64 x.s.ax)/\w'.cell? ⟨w.heap.size + 1,2,none⟩=some (.int .i64 x.s.start)/\w'.cell? ⟨w.heap.size + 1,3,none⟩=some (.int .i64 x.s.end_)/\w'.cell? ⟨w.heap.size + 1,4,none⟩=some (.int .i64 x.s.aU)/\w'.cell? ⟨w.heap.size + 1,5,none⟩=some (.slice x.s.A x.s.n x.s.c)/\w'.cell? ⟨w.heap.size + 1 + 1,0,none⟩=some (.int .i64 (dn:Int))/\w'.cell? ⟨w.heap.size + 1 + 1,1,none⟩=some (.int .i64 q.room)/\w'.cell? ⟨w.heap.size + 1 + 1,2,none⟩=some (.int .i64 q.a_)/\w'.cell? ⟨w.heap.size + 1 + 1,3,none⟩=some (.int .i64 q.service)/\w'.cell? ⟨w.heap.size + 1 + 1,4,none⟩=some (.int .i64 q.aI)/\w'.cell? ⟨w.heap.size + 1 + 1,5,none⟩=some (.int .i64 q.aP)/\w'.cell? ⟨w.heap.size + 1 + 1,6,none⟩=some (.slice q.A q.n q.c))
  (first | assumption | exact S0 | exact hSd _ (by assumption))
  (first
   | (go_at_call 183;refine (acd (some jJ) vn vc v m _ (nN _ (And.left (by assumption))) vK Ie).mono ?_;rintro e wb ⟨⟨RA,rn,rc,rfl,hR⟩,bb⟩;have S1:=hmk _ (bel (And.left (by assumption)) bb);have hrn:rn<=1000000000:=by (rw [hR.1];exact hpl))
   | (go_at_call 182;refine (ac4 x.s (some uT) x.m x.d x.r RA rn rc (K.part v m) _ (hAr _ S1.1) hx.b2 (GI _ S1.1) hx.b3 hx.b4 hR hrn).mono ?_;rintro e wc ⟨rfl,bc⟩;have S2:=hmk _ (bel S1.1 bc))
   | fail)
 obtain ⟨fb,hfb⟩:=zB (T.fits x.s x.r (K.part v m));rw [<-hfb];have Bg:=S2.1;have HL2:=zC (show K.lab x.nd x.l x.s x.r v m i=(if fb=false then -1 else if F < 0\/x.s.end_ < F then -1 else if (H.fit q.l F q.service).2=false\/x.s.end_ < (H.fit q.l F q.service).1 + q.service then -1 else (H.fit q.l F q.service).1 + q.service) by
  rw [JJ.out];unfold K.Jd;rw [<-hfb];have g1:¬ x.s.day < q.aI:=by omega
  have g2:¬ q.aP < x.s.day:=by omega
  simp only [g1,g2,false_or])
 clear S0 S1 S2 hR hrn hpl bb bc hfb Ie JJ hSd;cases fb
 ·have HX:=zC (show K.lab x.nd x.l x.s x.r v m i=-1 by rw [HL2.out];rfl);clear hmk;go_wp2_with fail;go_ret;exact ⟨by rw [HX.out];rfl,bel hb Bg⟩
 have hP3:=nH.out;have hw3:=HW3.out;have hP4:wrap64 ((m:Int) - (P:Int))=(rest:Int):=by rw [<-IntWalk.i64_left];exact hP3
 have hw4:wrap64 ((2:Int) ^ i)=(P:Int):=by rw [<-IntWalk.i64_left];exact hw3
 go_upto_region 4 with fail;obtain ⟨-,p0,p1,s0,s1,s2,s3,s4,s5,q0,-⟩:=hmk _ Bg;have p0:=ak.cell p0;have p1:=ak.cell p1;have s0:=ak.cell s0;have s1:=ak.cell s1;have s2:=ak.cell s2;have s3:=ak.cell s3;have s4:=ak.cell s4;have s5:=ak.cell s5;have q0:=ak.cell q0;have C:∀ j:ak wc,ay 184 #[.agg #[.int .i64 x.nd,.slice x.A x.n x.c],fG x.s,.slice (some uT) x.m x.d,.slice (some jJ) vn vc,.slice A tn tc,.int .i64 rest,.int .i64 dn] j.val (og j.val F):=λj=>by
  rw [HF.out,<-wI.out];exact ae1 x (some jJ) vn vc v A tn tc ts rest dn _ aY.out (uh _ (bel Bg j.property)) (nN _ (bel Bg j.property)) ((hT.below hb).below (bel Bg j.property)) nZ.out ahT Ti
 clear nN hAr GI uh;refine fV (by kernel_rfl) (by kernel_rfl) ?_;repeat (go_big_quiet_step ((go_at_call 184;exact ak.calls (C _))))
 refine wpQuiet_nil ?_;rintro wd ⟨⟨_,bd⟩,rfl⟩;have pR:af w3 wd:=bel Bg bd;clear C bd hP3 hP4 hw3 hw4;clear p0 p1 s0 s1 s2 s3 s4 s5 q0;obtain ⟨-,p0,p1,s0,s1,s2,s3,s4,s5,q0,q1,q2,q3,q4,q5,q6⟩:=hmk _ pR;by_cases h3:F < 0
 ·have c3:decide (F < 0)=true:=zH h3;have HX:=zC (show K.lab x.nd x.l x.s x.r v m i=-1 by rw [HL2.out,if_neg (by simp),if_pos (.inl h3)]);clear hmk;go_wp2_with fail;go_ret;exact ⟨by rw [HX.out];rfl,bel hb pR⟩
 have c3:decide (F < 0)=false:=zI h3;by_cases h4:x.s.end_ < F
 ·have c4:decide (x.s.end_ < F)=true:=zH h4;have HX:=zC (show K.lab x.nd x.l x.s x.r v m i=-1 by rw [HL2.out,if_neg (by simp),if_pos (.inr h4)]);clear hmk;go_wp2_with fail;go_ret;exact ⟨by rw [HX.out];rfl,bel hb pR⟩
 have c4:decide (x.s.end_ < F)=false:=zI h4;have Wx:=zC (show K.lab x.nd x.l x.s x.r v m i=(if (H.fit q.l F q.service).2=false\/x.s.end_ < (H.fit q.l F q.service).1 + q.service then -1 else (H.fit q.l F q.service).1 + q.service) by
  rw [HL2.out,if_neg (by simp),if_neg (by simp [h3,h4])])
 clear HL2;go_wp2_with fail;refine (ac3 q.A q.n q.c q.l F q.service _ (HWQ.out.below (bel hb pR)) FP.out).mono ?_;obtain ⟨FT,Q7⟩:=zB (H.fit q.l F q.service);have hfit:FT.2=true->0<=F/\F<=1000000/\F<=FT.1/\FT.1 + q.service<=1000000:=λh=>by
  rw [Q7] at h ⊢;obtain ⟨-,z1,-,z2,z3⟩:=H.oZ h;exact ⟨z1.1,z1.2,z2,z3⟩
 have We:=zC hfit;have hl3:=Wx.out;rw [<-Q7] at hl3 ⊢;have Pn:=zC hl3;clear hl3 Wx hfit Q7;obtain ⟨B,okb⟩:=FT;rintro e we ⟨rfl,be⟩;have Ku:=bel pR be;clear p0 p1 s0 s1 s2 s3 s4 s5 q0 q1 q2 q3 q4 q5 q6;obtain ⟨-,p0,p1,s0,s1,s2,s3,s4,s5,q0,q1,q2,q3,q4,q5,q6⟩:=hmk _ Ku;clear hmk be pR Bg;cases okb
 ·have HX:=zC (show K.lab x.nd x.l x.s x.r v m i=-1 by rw [Pn.out,if_pos (.inl rfl)]);go_wp2_with fail;go_ret;exact ⟨by rw [HX.out];rfl,bel hb Ku⟩
 have hfit:=We.out rfl;dsimp only at hfit;have hbs:IntKind.i64.wrap (B + q.service)=B + q.service:=dh _ (by omega);have MI:wrap64 (B + q.service)=B + q.service:=by rw [<-IntWalk.i64_left];exact hbs
 clear hfit We;by_cases h5:x.s.end_ < B + q.service
 ·have c5:decide (x.s.end_ < B + q.service)=true:=zH h5;have HX:=zC (show K.lab x.nd x.l x.s x.r v m i=-1 by rw [Pn.out,if_pos (.inr h5)]);go_wp2_with fail;go_ret;exact ⟨by rw [HX.out];rfl,bel hb Ku⟩
 ·have c5:decide (x.s.end_ < B + q.service)=false:=zI h5;have HX:=zC (show K.lab x.nd x.l x.s x.r v m i=B + q.service by rw [Pn.out,if_neg (by simp [h5])]);go_wp2_with fail;go_ret;exact ⟨by rw [HX.out];rfl,bel hb Ku⟩
namespace K
section
variable {nd : Int} {l : List Ro} {s : S} {r : List Q} {v : ag}
def nI (nd:Int) (l:List Ro) (s:S) (r:List Q) (v:ag) (N:Nat) (ts:ag) (m i:Nat):Prop :=
 ts.length=6 * N/\∀ m' j,j < v.length->m'.testBit j=true->(m' < m\/(m'=m/\j < i))->ts[m' * 6 + j]? = some (lab nd l s r v m' j)
theorem ami (N:Nat):nI nd l s r v N (List.replicate (6 * N) 0) 1 0 :=
 ⟨by simp,λm' j _ hb h=>by
  have:m'=0:=by omega
  rw [this,Nat.zero_testBit] at hb;cases hb⟩
theorem nI.skip {N m i:Nat} {ts:ag} (h:nI nd l s r v N ts m i) (hb:m.testBit i=false):nI nd l s r v N ts m (i + 1) :=
 ⟨h.1,λm' j hj hb' hc=>by
  refine h.2 m' j hj hb' ?_;rcases hc with hc | ⟨rfl,hc⟩
  ·exact .inl hc
  ·by_cases e:j=i
   ·rw [e,hb] at hb';cases hb'
   ·exact .inr ⟨rfl,by omega⟩⟩
theorem nI.row {N m:Nat} {ts:ag} (h:nI nd l s r v N ts m v.length):nI nd l s r v N ts (m + 1) 0 :=
 ⟨h.1,λm' j hj hb' hc=>h.2 m' j hj hb' (by
  by_cases e:m'=m
  ·exact .inr ⟨e,hj⟩
  ·exact .inl (by omega))⟩
theorem nI.put {N m i z:Nat} {ts:ag} (h:nI nd l s r v N ts m i) (hz:z=m * 6 + i) (hv:v.length<=6) (hi:i < v.length) (hm:m < N):nI nd l s r v N (ts.set z (lab nd l s r v m i)) m (i + 1):=by
 subst hz;refine ⟨by rw [List.length_set];exact h.1,λm' j hj hb' hc=>?_⟩;rw [List.getElem?_set];by_cases e:m * 6 + i=m' * 6 + j
 ·have e1:m'=m:=by omega
  have e2:j=i:=by omega
  subst e1 e2;rw [if_pos rfl,if_pos (by rw [h.1];omega)]
 ·rw [if_neg e];refine h.2 m' j hj hb' ?_;rcases hc with hc | ⟨rfl,hc⟩
  ·exact .inl hc
  ·exact .inr ⟨rfl,by omega⟩
theorem nI.get {N m i rest:Nat} {ts:ag} (h:nI nd l s r v N ts m i) (hr:rest < m) (hm:m < N) (hv:v.length<=6):∀ j,j < v.length->∃ y,ts[rest * 6 + j]? = some y/\(rest.testBit j=true->y=lab nd l s r v rest j):=λj hj=>by
 have hl:rest * 6 + j < ts.length:=by rw [h.1];omega
 refine ⟨_,zF hl,λhb=>?_⟩;have h1:=h.2 rest j hj hb (.inl hr);rw [zF hl] at h1;injection h1
end
end K
theorem ajG {w:World} {base:Nat} {e:TypeId} {size n:Nat} {v:Value} {xs:List Value} (h:w.ownsRow base e size v n xs) {ad:Addr} {m c:Nat} {o:ag} (hO:OI w ad m c o) (k:Nat) (u:Value) (hlt:ad.block < base):(w.setCell (ad.add k) u).ownsRow base e size v n xs:=by
 obtain ⟨-,-,g,cur,rfl,-,-⟩:=hO;rw [lN];refine h.kept (oh (qy w (some g)) g k u rfl) (.inr λe=>?_);have:=(h.lt g e).1;have:g < base:=hlt;omega
theorem aa_ (x:C) (V:aj) (vn vc:Nat) (v:ag) (w:World) (hx:At w x) (hV:Ints w V vn v) (hvn:vn<=1000000000) :
  ay 82 #[.agg #[.int .i64 x.nd,.slice x.A x.n x.c],fG x.s,.slice x.B x.m x.d,.slice V vn vc] w λe w'=>Xe w w' (K.bG x.nd x.l x.s x.r v) e:=by
 obtain ⟨w0,hw0⟩:=zB ((w.alloc (.cells #[.int .i64 x.nd,.slice x.A x.n x.c] 24)).alloc (.cells #[.int .i64 x.s.day,.int .i64 x.s.ax,.int .i64 x.s.start,.int .i64 x.s.end_,.int .i64 x.s.aU,.slice x.s.A x.s.n x.s.c] 63));have z1:=aF w (.cells #[.int .i64 x.nd,.slice x.A x.n x.c] 24);have b0:af w w0:=by rw [hw0];exact bel (ai.alloc (zG _) _) (ai.alloc (zG _) _)
 have hN:Net w0 w.heap.size x.nd x.A x.n x.c:=by
  rw [hw0];exact (Net.new w x.nd x.A x.n x.c).below (ai.alloc (zG _) _)
 have hS:bI w0 (w.heap.size + 1) x.s:=by
  have h:=bI.new (w.alloc (.cells #[.int .i64 x.nd,.slice x.A x.n x.c] 24)) x.s;rw [z1] at h;rw [hw0];exact h
 have p0:=hN.c0;have p1:=hN.c1;obtain ⟨s0,s1,s2,s3,s4,s5⟩:=hS.cells;rw [hw0] at p0 p1 s0 s1 s2 s3 s4 s5;go_enter Tryz.func82,Tryz.ntmps82;go_wp2_with fail;rw [<-hw0];clear hw0 z1 p0 p1 s0 s1 s2 s3 s4 s5;refine (Oe x V vn vc v _ (hx.below b0) (hV.below b0) hvn).mono ?_;obtain ⟨okb,mJ⟩:=zB (K.bF x.nd x.l x.s x.r v);rw [<-mJ];rintro e w1 ⟨rfl,b1⟩;have hb:=bel b0 b1;have hN:=hN.below b1;have hS:=hS.below b1;clear b0 b1;cases okb
 ·have HX:=zC (show K.bG x.nd x.l x.s x.r v=[] by simp [K.bG,<-mJ]);clear mJ;go_wp2_with fail;go_ret;exact ⟨⟨none,0,0,rfl,by rw [HX.out];exact ⟨rfl,rfl,λh=>absurd h (by omega)⟩,λad e=>(nomatch e)⟩,hb⟩
 have hok:=mJ.symm;have hv6:vn<=6:=by rw [hV.1];exact (K.jl hok).2.2.2.2.1
 have iR:=zC hV.1;obtain ⟨N,hNN⟩:∃ N,N=2 ^ vn:=⟨_,rfl⟩;have hN1:1<=N:=by rw [hNN];exact Nat.two_pow_pos vn
 have GY:N<=64:=by rw [hNN];exact Nat.pow_le_pow_right (by omega) hv6
 obtain ⟨N6,RD⟩:∃ N6,N6=6 * N:=⟨_,rfl⟩;have wH:=zC (show N=2 ^ v.length by rw [hNN,iR.out]);have HW1:=zC (show IntKind.i64.wrap ((2:Int) ^ vn)=(N:Int) by rw [sG (by omega),hNN];simp);have IM:IntKind.i64.wrap ((6:Int) * 2 ^ vn)=(N6:Int):=by
  have h1:((2:Int) ^ vn)=(N:Int):=by rw [hNN];simp
  rw [h1,dh _ (by omega)];omega
 have HW2:=zC (show wrap64 ((2:Int) ^ vn)=(N:Int) by rw [<-IntWalk.i64_left];exact HW1.out);have Nk:wrap64 ((6:Int) * 2 ^ vn)=(N6:Int):=by rw [<-IntWalk.i64_left];exact IM
 have aev:=zC IM;have aew:=zC Nk;have aY:=zC hok;clear hNN mJ IM Nk;have ag3:N6<=1000000:=by omega
 have hmk:=λw'=>CX N6 ag3 w';have IM:=aev.out;have Nk:=aew.out;obtain ⟨w2,hw2⟩:=zB (w1.alloc (.cells (intCells (List.replicate N6 0)).toArray 3));have b12:=aH hw2;have hT2:OI w2 ⟨w1.heap.size,0,none⟩ N6 N6 (List.replicate N6 0):=⟨by simp,zG _,_,_,rfl,by rw [hw2];exact aA _ _,by simp [intCells]⟩;have z2:w2.heap.size=w1.heap.size + 1:=by rw [hw2];exact aF _ _
 have nZ:=zC (show K.nI x.nd x.l x.s x.r v N (List.replicate N6 0) 1 0 by rw [RD];exact K.ami N);have HN6:=zC RD;clear RD;obtain ⟨uS,L_⟩:∃ uS:Addr,uS=⟨w1.heap.size,0,none⟩:=⟨_,rfl⟩;rw [<-L_] at hT2;have ag8:uS.block=w1.heap.size:=by rw [L_]
 go_upto_region 5 with fail;rw [<-hw2,<-L_];clear hw2 L_ hmk IM Nk;go_wp2_with fail;go_loopw [9,11] (λv9 v11 wr=>∃ (m:Nat) (ts:ag),v11=.int .i64 m/\1<=m/\m<=N/\OI wr uS N6 N6 ts/\Hid (K.nI x.nd x.l x.s x.r v N ts m 0)/\(K.jC x.nd x.l x.s x.r v m 0<=(K.bG x.nd x.l x.s x.r v).length)/\wr.ownsRow w2.heap.size 167 3 v9 (K.jC x.nd x.l x.s x.r v m 0) (((K.bG x.nd x.l x.s x.r v).take (K.jC x.nd x.l x.s x.r v m 0)).flatMap mM)/\af w1 wr/\w2.heap.size<=wr.heap.size) (λ_ v11 _=>N - (intOf v11).toNat)
 case atStart=>exact ⟨1,_,rfl,zG _,hN1,hT2,nZ.out,by rw [K.abQ];exact aW _,by rw [K.abQ];exact kF _ _ _ _,b12,zG _⟩
 case round =>
  clear hT2 nZ b12;obtain ⟨m,ts,rfl,hm1,hmN,hT,hts,hnl,hown,hbr,hsz⟩:=hrel;by_cases hlt:m < N
  ·have hlt':decide ((m:Int) < (N:Int))=true:=by simp;exact hlt
   have hw1:=HW1.out;have hw2:=HW2.out;go_wp2_with fail;clear hw1 hw2;go_loopw [9,12] (λv9 v12 wi=>∃ (i:Nat) (ts:ag),v12=.int .i64 i/\i<=vn/\OI wi uS N6 N6 ts/\Hid (K.nI x.nd x.l x.s x.r v N ts m i)/\(K.jC x.nd x.l x.s x.r v m i<=(K.bG x.nd x.l x.s x.r v).length)/\wi.ownsRow w2.heap.size 167 3 v9 (K.jC x.nd x.l x.s x.r v m i) (((K.bG x.nd x.l x.s x.r v).take (K.jC x.nd x.l x.s x.r v m i)).flatMap mM)/\af w1 wi/\w2.heap.size<=wi.heap.size) (λ_ v12 _=>vn - (intOf v12).toNat)
   case atStart=>exact ⟨0,ts,rfl,aW _,hT,hts,hnl,hown,hbr,hsz⟩
   case round =>
    clear hT hts hnl hown hbr hsz;obtain ⟨i,ts,rfl,hi,hT,hts,hnl,hown,hbr,hsz⟩:=hrel;by_cases uo:i < vn
    ·cases hbit:m.testBit i
     ·have hb1:bits BinOp.and IntKind.i64 ((m:Int) / 2 ^ i) 1=0:=by rw [oP (by omega) (by omega),hbit];rfl
      have JK:=zC (K.ajc (nd:=x.nd) (l:=x.l) (s:=x.s) (r:=x.r) (v:=v) hbit);have HT2:=zC (hts.out.skip hbit);rw [<-JK.out] at hown hnl;clear hbit hts;go_wp2_with fail;go_roundw
      case rel=>exact ⟨i + 1,ts,by go_num,uo,hT,HT2.out,hnl,hown,hbr,hsz⟩
      case measure=>simp [intOf];omega
     ·have hb1:bits BinOp.and IntKind.i64 ((m:Int) / 2 ^ i) 1=1:=by rw [oP (by omega) (by omega),hbit];rfl
      go_upto_region 12 with fail;clear hb1;obtain ⟨hre,hrb⟩:=KH (show m < 64 by omega) (show i < 6 by omega) hbit;have yx:=zC hbit;clear hbit hrb;have hN':=hN.below hbr;have hS':=hS.below hbr;have hbw:=bel hb hbr;have p0:=hN'.c0;have p1:=hN'.c1;obtain ⟨s0,s1,s2,s3,s4,s5⟩:=hS'.cells;obtain ⟨P,hP⟩:∃ P,P=2 ^ i:=⟨_,rfl⟩;rw [<-hP] at hre;have hpw:1<=P:=by rw [hP];exact Nat.two_pow_pos i
      obtain ⟨rest,hrest⟩:=zB (m - P);have CL:=aip x V vn vc v (some uS) N6 N6 ts m i P rest wr aY.out (hx.below hbw) (hV.below hbw) hT.ints hP hrest (by omega) (by omega) (by rw [<-wH.out];exact hlt) uo yx.out (λj hj=>hts.out.get (by omega) hlt (by rw [<-iR.out];exact hv6) j (by rw [<-iR.out];exact hj));clear hre hP hpw hrest hN' hS';go_wp2_with fail;refine CL.mono ?_;obtain ⟨L,hL⟩:=zB (K.lab x.nd x.l x.s x.r v m i);rw [<-hL];rintro e w3 ⟨rfl,b3⟩;have ng:=hT.below b3;have Z9:af w1 w3:=bel hbr b3;have hown3:=own_below hown b3;have hsz3:w2.heap.size<=w3.heap.size:=aN hsz b3.size;clear CL p0 p1 s0 s1 s2 s3 s4 s5 hT hown hbr hsz b3 hbw;obtain ⟨m6,o6⟩:=zB (m * 6);obtain ⟨z,hz⟩:=zB (m6 + i);have HZ:=zC (show z=m * 6 + i by rw [hz,o6]);have hzN:z < N6:=by rw [HN6.out];omega
      obtain ⟨old,hold⟩:∃ old,ts[z]? = some old:=⟨_,zF (by rw [<-ng.1];exact hzN)⟩;have cz:=ng.cell hold;have fz:=ng.free z;have UE:IntKind.i64.wrap ((m:Int) * 6)=(m6:Int):=by rw [dh _ (by omega)];omega
      have UF:IntKind.i64.wrap ((m6:Int) + (i:Int))=(z:Int):=by rw [dh _ (by omega)];omega
      obtain ⟨II,IJ⟩:=zJ (a:=z) (b:=N6) (by omega);obtain ⟨w4,hw4⟩:=zB (w3.setCell (uS.add z) (.int .i64 L));have ZH:OI w4 uS N6 N6 (ts.set z L):=by rw [hw4];exact ng.set z L
      have ahj:af w1 w4:=by rw [hw4];exact Z9.setCell (by rw [add_block,ag8];exact zG _) _
      have z4:w4.heap.size=w3.heap.size:=by rw [hw4];simp
      have hown4:w4.ownsRow w2.heap.size 167 3 u9 (K.jC x.nd x.l x.s x.r v m i) (((K.bG x.nd x.l x.s x.r v).take (K.jC x.nd x.l x.s x.r v m i)).flatMap mM):=by
       rw [hw4];exact ajG hown3 ng z _ (by omega)
      have bH:=zC (K.aja (nd:=x.nd) (l:=x.l) (s:=x.s) (r:=x.r) (v:=v) yx.out);have MP:=K.aiz (nd:=x.nd) (l:=x.l) (s:=x.s) (r:=x.r) aY.out (by rw [<-wH.out];exact hlt) (by rw [<-iR.out];exact uo) yx.out;rw [<-hL] at MP;have nY:=zC (take_snoc MP);have ahJ:K.jC x.nd x.l x.s x.r v m (i + 1)<=(K.bG x.nd x.l x.s x.r v).length:=by rw [bH.out];exact (zE.1 MP).1
      have PZ:=zC (show K.nI x.nd x.l x.s x.r v N (ts.set z L) m (i + 1) by rw [hL];exact hts.out.put HZ.out (by rw [<-iR.out];exact hv6) (by rw [<-iR.out];exact uo) hlt);have hll:=K.UG x.nd x.l x.s x.r v;have hln:K.jC x.nd x.l x.s x.r v m i<=1000000:=by omega
      have ah0:w2.heap.size<=w4.heap.size:=by omega
      clear o6 hz hold hL MP hll hts ng hown3 Z9 hnl;go_upto_region 14 with fail;rw [<-hw4];clear hw4 cz fz UE UF II IJ z4 hsz3;have ha:af w4 (w4.alloc (.cells #[.int .i64 (m:Int),.int .i64 (i:Int),.int .i64 L] 167)):=ai.alloc (zG _) _;have hown5:=own_below hown4 ha;have hs2:w2.heap.size<=(w4.alloc (.cells #[.int .i64 (m:Int),.int .i64 (i:Int),.int .i64 L] 167)).heap.size:=aN ah0 ha.size;go_wp2_with (at_builtin;refine XG rfl (.tmp 58) (.tmp 63) rfl w2.heap.size u9 (K.jC x.nd x.l x.s x.r v m i) ((K.bG x.nd x.l x.s x.r v).take (K.jC x.nd x.l x.s x.r v m i)) rfl hown5 w4.heap.size m i L rfl (bU _ _ _ rfl) hln hs2 ?_;intro tv' w6 hown6 hgrow6 gy);have b6:af w1 w6:=dY (bel ahj ha) hgrow6 (λg e=>by have:=(hown4.lt g e).1;omega);have jh:OI w6 uS N6 N6 (ts.set z L):=(ZH.below ha).grown hgrow6 (λe=>by have:=(hown4.lt _ e.symm).1;omega);have ah1:w2.heap.size<=w6.heap.size:=aN hs2 hgrow6.size;rw [<-nY.out,<-bH.out] at hown6;clear hgrow6 gy hown5 hown4 ZH ha hs2;go_roundw
      case rel=>(go_light;exact ⟨i + 1,_,by go_num,uo,jh,PZ.out,ahJ,hown6,b6,ah1⟩)
      case measure=>(go_light;simp [intOf] <;> omega)
    ·have HRW:=zC (K.ajb (nd:=x.nd) (l:=x.l) (s:=x.s) (r:=x.r) (v:=v) m);have hin:i=v.length:=by rw [<-iR.out];omega
     have PZ:=zC (show K.nI x.nd x.l x.s x.r v N ts (m + 1) 0 by have h:=hts.out;rw [hin] at h;exact h.row);rw [hin,HRW.out] at hown hnl;clear hin hts;go_wp2_with fail;go_roundw
     case rel=>exact ⟨m + 1,ts,by go_num,by omega,by omega,hT,PZ.out,hnl,hown,hbr,hsz⟩
     case measure=>simp [intOf];omega
  ·have aat:m=N:=by omega
   have he:=K.ai' (nd:=x.nd) (l:=x.l) (s:=x.s) (r:=x.r) aY.out;rw [aat,wH.out,he,List.take_length] at hown;have Ih:=gz hown;obtain ⟨A9,c9,rfl,jL,-⟩:=fP hown;have TR:∀ ad,A9=some ad->w.heap.size<=ad.block:=λad e=>(by have h1:=(Ih ad.block (by rw [e];rfl)).1;have h2:=hb.size;omega);clear Ih;have hw1:decide ((m:Int) < IntKind.i64.wrap ((2:Int) ^ vn))=false:=by rw [HW1.out];simp;omega
   have hw2:decide ((m:Int) < wrap64 ((2:Int) ^ vn))=false:=by rw [HW2.out];simp;omega
   clear he aat hts hown;go_wp2_with fail;clear hw1 hw2;go_ret;exact ⟨⟨_,_,_,rfl,⟨rfl,jL⟩,TR⟩,bel hb hbr⟩
theorem aiv (x:C) (V:aj) (vn vc:Nat) (v:ag) (w:World) (hx:At w x) (hV:Ints w V vn v) (hvn:vn<=1000000000) :
  ay 82 #[.agg #[.int .i64 x.nd,.slice x.A x.n x.c],fG x.s,.slice x.B x.m x.d,.slice V vn vc] w λe w'=>Xd w w' (K.bG x.nd x.l x.s x.r v) e :=
 (aa_ x V vn vc v w hx hV hvn).mono λ_ _ ⟨⟨A,n,c,h1,h2,_⟩,hb⟩=>⟨⟨A,n,c,h1,h2⟩,hb⟩
theorem abr {w:World} {g:Nat} {i:Int} (h:w.heap[g]? = some (.cells #[.int .i64 i] 3 (0,0))):Rd w 1 (some ⟨g,0,none⟩) 1 [.int .i64 i] :=
 ⟨rfl,λ_=>⟨_,rfl,λj u hu=>by
  cases j with
  | zero =>
   have hu:some (Value.int .i64 i)=some u:=hu;injection hu with hu;subst hu;exact ah h 0 _ rfl
  | succ j=>simp at hu⟩⟩
def P9 (x:C) (v:ag) (i a t:Int) (w w':World) (e:Ending):Prop:=e=.returned (.tuple #[.int .i64 (K.aG x.nd x.l x.s x.r v i a t).1,.int .i64 (K.aG x.nd x.l x.s x.r v i a t).2])/\af w w'
theorem zV {x:C} {v:ag} {i a t b er:Int} {w w':World} (h:K.aG x.nd x.l x.s x.r v i a t=(b,er)) (hb:af w w'):P9 x v i a t w w' (.returned (.tuple #[.int .i64 b,.int .i64 er])):=⟨by rw [h],hb⟩
theorem aiB (x:C) (V:aj) (vn vc:Nat) (v:ag) (i:Nat) (q:Q) (a t:Int) (w:World) (hx:At w x) (hV:Ints w V vn v) (hvn:vn<=100000) (hne:K.aZ x.nd x.l=0) (ha:0<=a/\a < x.nd) (hq:x.r[i]? = some q) (hno:0<=q.node/\q.node < x.nd) (ht:0<=t/\t<=1000000)
  (hse:0<=q.service/\q.service<=1000000) :
  ay 180 #[.agg #[.int .i64 x.nd,.slice x.A x.n x.c],fG x.s,.slice x.B x.m x.d,.slice V vn vc,.int .i64 i,.int .i64 a,.int .i64 t] w λe w'=>P9 x v i a t w w' e:=by
 have him:i < x.m:=by rw [hx.bf.1];exact (zE.1 hq).1
 obtain ⟨w1,hw1⟩:=zB (w.alloc (.cells #[.int .i64 x.nd,.slice x.A x.n x.c] 24));obtain ⟨w2,hw2⟩:=zB (w1.alloc (.cells #[.int .i64 x.s.day,.int .i64 x.s.ax,.int .i64 x.s.start,.int .i64 x.s.end_,.int .i64 x.s.aU,.slice x.s.A x.s.n x.s.c] 63));obtain ⟨w3,hw3⟩:=zB (w2.alloc (.cells #[.int .i64 q.node,.int .i64 q.room,.int .i64 q.a_,.int .i64 q.service,.int .i64 q.aI,.int .i64 q.aP,.slice q.A q.n q.c] 47));have z1:w1.heap.size=w.heap.size + 1:=by rw [hw1];exact aF _ _
 have z2:w2.heap.size=w.heap.size + 1 + 1:=by rw [hw2,aF,z1]
 have b01:=aH hw1;have b12:=aH hw2;have bQ:=aH hw3;have hP:Net w3 w.heap.size x.nd x.A x.n x.c:=by
  have h1:Net w1 w.heap.size x.nd x.A x.n x.c:=by rw [hw1];exact Net.new _ _ _ _ _
  exact (h1.below b12).below bQ
 have hS:bI w3 (w.heap.size + 1) x.s:=by
  have h1:bI w2 (w.heap.size + 1) x.s:=by rw [<-z1,hw2];exact bI.new _ _
  exact h1.below bQ
 have hQ:dV w3 (w.heap.size + 1 + 1) q:=by rw [<-z2,hw3];exact dV.new w2 q
 have hb:=bel (bel b01 b12) bQ;obtain ⟨ad,q',hB,hgq,hwq,e0,e1,e2,e3,e4,e5,e6⟩:=(hx.bf.below (bel b01 b12)).at_ him;rw [hq] at hgq;injection hgq with hgq;subst hgq;have fQ:=zC (K.lZ hq);have fU:=hx.b4 q (zD hq);obtain ⟨i0,i1⟩:=zJ (a:=i) (b:=x.m) (by omega);have HB:=zC hB;clear hq;rw [hw2,hw1] at e0 e1 e2 e3 e4 e5 e6;rw [hB];cases d1:decide (x.s.day < q.aI);rotate_left
 ·have HX:=zC (show K.aG x.nd x.l x.s x.r v i a t=(0,17) by unfold K.aG;rw [fQ.out,if_pos (.inl (by simpa using d1))]);clear hB;go_enter Tryz.func180,Tryz.ntmps180;go_wp2_with fail;go_ret2
  rw [<-hw1,<-hw2,<-hw3];exact zV HX.out hb
 cases d2:decide (q.aP < x.s.day);rotate_left
 ·have HX:=zC (show K.aG x.nd x.l x.s x.r v i a t=(0,17) by unfold K.aG;rw [fQ.out,if_pos (.inr (by simpa using d2))]);clear hB;go_enter Tryz.func180,Tryz.ntmps180;go_wp2_with fail;go_ret2
  rw [<-hw1,<-hw2,<-hw3];exact zV HX.out hb
 have HD:=zC (show ¬ (x.s.day < (K.req x.r i).aI\/(K.req x.r i).aP < x.s.day) by rw [fQ.out];simp at d1 d2;omega);clear hB;go_enter Tryz.func180,Tryz.ntmps180;go_wp2_with fail;rw [<-hw1,<-hw2,<-hw3];clear e0 e1 e2 e3 e4 e5 e6 i0 i1 z1 z2 b01 b12 hw1 hw2 hw3;have S0:=kL.mk' hP hS (dK w3);have hAx:∀ w',kL w3 w.heap.size x w'->At w' x:=λw' h=>hx.below (bel hb h.1);have nN:∀ w',kL w3 w.heap.size x w'->Ints w' V vn v:=λw' h=>hV.below (bel hb h.1);have lC:∀ w' w'',kL w3 w.heap.size x w'->af w' w''->kL w3 w.heap.size x w'':=λw' w'' h hb'=>kL.mk' hP hS (bel h.1 hb');have hSd:∀ w',kL w3 w.heap.size x w'->kL w3 w.heap.size x w'.drew:=λw' h=>kL.mk' hP hS h.1.drew;have fK:∀ w' o',kL w3 w.heap.size x w'->kL w3 w.heap.size x (w'.alloc o'):=λw' o' h=>kL.mk' hP hS (bel h.1 (ai.alloc (zG _) _));have LJ:∀ (w' w'':World) (v:Value),kL w3 w.heap.size x w'->w'.grownBy w'' v.ownBlock->(∀ g,v.ownBlock=some g->w3.heap.size<=g)->kL w3 w.heap.size x w'':=λw' w'' v h hg hv=>kL.mk' hP hS (h.1.grown hg (aN h.1.size (zG _)) hv);obtain ⟨i0,hi,hz0,hz1,hz2⟩:=info_parts Tryz.info3;have P6:=zC hV.1;clear d1 d2;obtain ⟨c2,c3,c4⟩:x.s.n<=1000000000/\x.m<=1000000000/\∀ q ∈ x.r,q.n<=1000000000:=⟨hx.b2,hx.b3,hx.b4⟩;rw [<-HB.out];go_cut [45] from 36 to 45 (λv45 wc=>v45=.bool (!(T.fits x.s x.r (v ++ [(i:Int)])))/\af w3 wc)
 case first =>
  go_region_held3 (λw'=>af w3 w'/\w'.cell? ⟨w.heap.size,0,none⟩=some (.int .i64 x.nd)/\w'.cell? ⟨w.heap.size,1,none⟩=some (.slice x.A x.n x.c)/\w'.cell? ⟨w.heap.size + 1,0,none⟩=some (.int .i64 x.s.day)/\w'.cell? ⟨w.heap.size + 1,1,none⟩=some (.int .i64 x.s.ax)/\w'.cell? ⟨w.heap.size + 1,2,none⟩=some (.int .i64 x.s.start) /\
  w'.cell? ⟨w.heap.size + 1,3,none⟩=some (.int .i64 x.s.end_)/\w'.cell? ⟨w.heap.size + 1,4,none⟩=some (.int .i64 x.s.aU)/\w'.cell? ⟨w.heap.size + 1,5,none⟩=some (.slice x.s.A x.s.n x.s.c))
   (first | assumption | exact S0 | exact hSd _ (by assumption) | exact fK _ _ (by assumption) | exact fK _ _ (hSd _ S0))
   (first
    | (go_at_call 182;refine (ac4 x.s x.B x.m x.d x.r _ _ _ (v ++ [(i:Int)]) _ (hAx _ ?_).gW c2 (hAx _ ?_).bf c3 c4 hJ (by omega)).mono ?_;assumption;assumption;rintro e w9 ⟨rfl,hbn⟩;have Ee:=lC _ _ (by assumption) hbn)
    | ((refine x_ rfl (.tmp 38) (.tmp 39) 48 rfl w3.heap.size 3 i0 (.int .i64 0) 1 8 Tryz.underlying48 hi hz0 hz1 hz2 rfl (by decide) (.slice (some ⟨w3.heap.size,0,none⟩) 0 0) 0 [] rfl ?_ V vn vc (intCells v) rfl ?_ (qI _) (by simp only [maxLen];omega) (by omega) ?_ ?_;(first | exact uy (aA w3 (.cells #[] 3)) (zG _) | exact uy (aO (aA w3 (.cells #[] 3)) _) (zG _));(refine (nN _ (show kL w3 w.heap.size x _ from ?_)).2;assumption);(refine (And.left (b:=_) (show kL w3 w.heap.size x _ from ?_)).size;assumption));intro v1 w4 hown1 hgrow1 SB;have hS1:=LJ _ _ _ (by assumption) hgrow1 (CQ (by omega));rw [Nat.zero_add,List.nil_append] at hown1;
        (first | (have hT1:=iV hgrow1 (g:=w3.heap.size + 1) (o:=(.cells #[.int .i64 (i:Int)] 3)) (bU (w3.alloc (.cells #[] 3)) (.cells #[.int .i64 (i:Int)] 3) (w3.heap.size + 1) (aF _ _).symm) (abq (by omega))) | skip))
    | ((refine x_ rfl (.tmp 38) (.tmp 39) 48 rfl w3.heap.size 3 i0 (.int .i64 0) 1 8 Tryz.underlying48 hi hz0 hz1 hz2 rfl (by decide) (.slice (some ⟨w3.heap.size + 1,0,none⟩) 0 0) 0 [] rfl ?_ V vn vc (intCells v) rfl ?_ (qI _) (by simp only [maxLen];omega) (by omega) ?_ ?_;(exact uy (bU (w3.alloc (.cells #[.int .i64 (i:Int)] 3)) (.cells #[] 3) _ (aF _ _).symm) (by omega));(refine (nN _ (show kL w3 w.heap.size x _ from ?_)).2;assumption);(refine (And.left (b:=_) (show kL w3 w.heap.size x _ from ?_)).size;assumption));intro v1 w4 hown1 hgrow1 SB;have hS1:=LJ _ _ _ (by assumption) hgrow1 (CQ (by omega));rw [Nat.zero_add,List.nil_append] at hown1;
        (first | (have hT1:=iV hgrow1 (g:=w3.heap.size) (o:=(.cells #[.int .i64 (i:Int)] 3)) (aO (aA w3 (.cells #[.int .i64 (i:Int)] 3)) (.cells #[] 3)) (abq (by omega))) | skip))
    | (refine x_ rfl (.tmp 40) (.tmp 42) 48 rfl w3.heap.size 3 i0 (.int .i64 0) 1 8 Tryz.underlying48 hi hz0 hz1 hz2 rfl (by decide) v1 vn (intCells v) rfl ?_ _ 1 1 [.int .i64 (i:Int)] rfl ?_ (qI [(i:Int)]) (by simp only [maxLen];omega) (by omega) ?_ ?_;(first | exact hown1 | exact World.ownsRow.alloc hown1 _);(first | exact abr hT1 | exact abr (aA _ (.cells #[.int .i64 (i:Int)] 3)));(refine (And.left (b:=_) (show kL w3 w.heap.size x _ from ?_)).size;assumption);intro v2 w5 hown2 hgrow2 ane;have hS2:=LJ _ _ _ (by assumption) hgrow2 (λg e=>(hown1.lt g e).1);
        obtain ⟨A9,c9,rfl,RN,-⟩:=fP hown2;have hJ:Ints _ A9 (vn + 1) (v ++ [(i:Int)]):=⟨by rw [cZ,<-P6.out];rfl,by rw [EL];exact RN⟩))
  all_goals go_wp2_with fail
  all_goals go_meet
  all_goals exact ⟨rfl,Ee.1⟩
 case rest =>
  obtain ⟨rfl,hbc⟩:=hcut;have hb:=bel hb hbc;have hP:=hP.below hbc;have hS:=hS.below hbc;have hQ:=hQ.below hbc;have hwq:=hwq.below (bel bQ hbc);clear S0 hAx nN lC hSd fK LJ hi hz0 hz1 hz2 hbc bQ;cases hf:T.fits x.s x.r (v ++ [(i:Int)])
  ·have HX:=zC (show K.aG x.nd x.l x.s x.r v i a t=(0,20) by unfold K.aG;rw [if_neg HD.out,if_pos hf]);clear hf;go_wp2_with fail;go_ret2
   exact zV HX.out hb
  have HF:=zC (show ¬ (T.fits x.s x.r (v ++ [(i:Int)])=false) by rw [hf];simp);clear hf;obtain ⟨qn,Ip⟩:∃ qn:Nat,q.node=(qn:Int):=⟨q.node.toNat,by omega⟩;obtain ⟨s0,s1,s2,s3,s4,s5⟩:=hS.cells;obtain ⟨q0,q1,q2,q3,q4,q5,q6⟩:=hQ.cells;rw [Ip] at q0;have g0:=ak.cell hP.c0;have g1:=ak.cell hP.c1;have f0:=ak.cell s0;have f1:=ak.cell s1;have f2:=ak.cell s2;have f3:=ak.cell s3;have f4:=ak.cell s4;have f5:=ak.cell s5;have k0:=ak.cell q0;have mZ:=hx.below hb;have pX:=hV.below hb;obtain ⟨wt,hwt⟩:=zB (T.weight x.s x.r v);obtain ⟨y,hy⟩:=zB (K.way x.nd x.l a wt qn);have CW:=λj:ak wc=>Oo x.s x.B x.m x.d x.r V vn vc v j.val ((mZ.below j.property).gW) c2 ((mZ.below j.property).bf) c3 c4 (pX.below j.property) (by omega);have CY:=λj:ak wc=>adC x.nd x.A x.n x.c x.l a qn wt j.val ((mZ.below j.property).net) hx.b1 hne ha (by omega);simp only [<-hwt] at CW;simp only [<-hy] at CY;have hyb:=K.jY x.nd x.l a wt q.node;rw [Ip,<-hy] at hyb;obtain ⟨hy0,hy1⟩:=hyb;have HY:=zC (show K.way x.nd x.l a (T.weight x.s x.r v) (K.req x.r i).node=y by rw [fQ.out,Ip,<-hwt,hy]);have FP:=zC Ip;clear hy hwt Ip q0 q1 q2 q3 q4 q5 q6 s0 s1 s2 s3 s4 s5;go_wp2_with fail;refine fV (by kernel_rfl) (by kernel_rfl) ?_;repeat (go_big_quiet_step ((first | (go_at_call 146;exact ak.calls (CW _)) | (go_at_call 181;exact ak.calls (CY _)))))
  refine wpQuiet_nil ?_;rintro w5 ⟨⟨_,bJ⟩,rfl⟩;have hb:=bel hb bJ;have hS:=hS.below bJ;have hQ:=hQ.below bJ;have hwq:=hwq.below bJ;clear bJ CW CY g0 g1 f0 f1 f2 f3 f4 f5 k0 mZ pX hP;obtain ⟨s0,s1,s2,s3,s4,s5⟩:=hS.cells;obtain ⟨q0,q1,q2,q3,q4,q5,q6⟩:=hQ.cells;cases h1:decide (y < 0);rotate_left
  ·have HX:=zC (show K.aG x.nd x.l x.s x.r v i a t=(0,4) by
    have hr:K.reach x.nd x.l x.s x.r v a t (K.req x.r i).node=(0,4):=by unfold K.reach;rw [HY.out,if_pos (by have h1:=iH h1;omega)]
    unfold K.aG;rw [if_neg HD.out,if_neg HF.out,hr,if_pos (by decide)])
   go_wp2_with fail;go_ret2
   exact zV HX.out hb
  have hyp:¬ y < 0:=of_decide_eq_false h1;have hwrap:IntKind.i64.wrap (t + y)=t + y:=dh _ (by omega);cases h2:decide (x.s.end_ < t + y);rotate_left
  ·have HX:=zC (show K.aG x.nd x.l x.s x.r v i a t=(0,18) by
    have hr:K.reach x.nd x.l x.s x.r v a t (K.req x.r i).node=(0,18):=by unfold K.reach;rw [HY.out,if_neg (by omega),if_pos (iH h2)]
    unfold K.aG;rw [if_neg HD.out,if_neg HF.out,hr,if_pos (by decide)])
   go_wp2_with fail;go_ret2
   exact zV HX.out hb
  have h2':¬ x.s.end_ < t + y:=of_decide_eq_false h2;have HR:=zC (show K.reach x.nd x.l x.s x.r v a t (K.req x.r i).node=(t + y,0) by unfold K.reach;rw [HY.out,if_neg (by omega),if_neg h2']);have hy2:0<=y:=by omega
  clear hyp h2';go_wp2_with fail;refine (ac3 q.A q.n q.c q.l (t + y) q.service _ hwq fU).mono ?_;rintro e w7 ⟨rfl,Bh⟩;have hb:=bel hb Bh;have hS:=hS.below Bh;have hQ:=hQ.below Bh;clear q0 q1 q2 q3 q4 q5 q6 s0 s1 s2 s3 s4 s5 h1 h2;have Ar:=zC (λh=>H.oZ (l:=q.l) (t:=t + y) (s:=q.service) h);obtain ⟨fb,hfb⟩:=zB ((H.fit q.l (t + y) q.service).1);obtain ⟨ok,hok⟩:=zB ((H.fit q.l (t + y) q.service).2);rw [<-hfb,<-hok];have sK:=zC hfb;have aY:=zC hok;clear hfb hok;cases hko:ok
  ·have HX:=zC (show K.aG x.nd x.l x.s x.r v i a t=(0,19) by unfold K.aG;rw [if_neg HD.out,if_neg HF.out,HR.out,if_neg (by simp),fQ.out,if_pos (by rw [<-aY.out];exact hko)]);clear hko;go_wp2_with fail;go_ret2
   exact zV HX.out hb
  have Aw:=zC (show ¬ ((H.fit q.l (t + y) q.service).2=false) by rw [<-aY.out,hko];simp);obtain ⟨-,-,-,hf1,hf2⟩:=Ar.out (by rw [<-aY.out];exact hko);rw [<-sK.out] at hf1 hf2;subst hko;have hf0:0<=fb:=by omega
  clear Ar;obtain ⟨q0,q1,q2,q3,q4,q5,q6⟩:=hQ.cells;obtain ⟨s0,s1,s2,s3,s4,s5⟩:=hS.cells;have hwrap:IntKind.i64.wrap (fb + q.service)=fb + q.service:=dh _ (by omega);cases h3:decide (x.s.end_ < fb + q.service);rotate_left
  ·have HX:=zC (show K.aG x.nd x.l x.s x.r v i a t=(0,18) by unfold K.aG;rw [if_neg HD.out,if_neg HF.out,HR.out,if_neg (by simp),fQ.out,if_neg Aw.out,if_pos (by rw [<-sK.out];exact iH h3)]);go_wp2_with fail;go_ret2
   exact zV HX.out hb
  have HX:=zC (show K.aG x.nd x.l x.s x.r v i a t=(fb,0) by unfold K.aG;rw [if_neg HD.out,if_neg HF.out,HR.out,if_neg (by simp),fQ.out,if_neg Aw.out,if_neg (by rw [<-sK.out];exact of_decide_eq_false h3),<-sK.out]);go_wp2_with fail;go_ret2
  exact zV HX.out hb
structure FY (x:C) (o:ag) (wS:World) (S:Value) (k:Nat) (tv:Value) (a t:Int) (ts:ag) (wr:World):Prop where
 aB:K.aB x.nd x.l x.s x.r [] x.s.ax x.s.start o=⟨ts ++ (K.aB x.nd x.l x.s x.r (o.take k) a t (o.drop k)).times,(K.aB x.nd x.l x.s x.r (o.take k) a t (o.drop k)).a,(K.aB x.nd x.l x.s x.r (o.take k) a t (o.drop k)).t,(K.aB x.nd x.l x.s x.r (o.take k) a t (o.drop k)).e⟩
 len:ts.length=k
 blk:jr wr wS.heap.size 0 S tv 0
 own:wr.ownsRow (wS.heap.size + 1) 3 1 tv k (intCells ts)
 a0:0<=a/\a < x.nd
 t0:0<=t/\t<=1000000
 bw:af wS wr
theorem FY.next {x:C} {o:ag} {wS wr w5 w6:World} {S:Value} {k:Nat} {tv tv':Value} {a t i lb le:Int} {ts:ag} (h:FY x o wS S k tv a t ts wr) (hi:o[k]? = some i) (hlb:lb=(K.aG x.nd x.l x.s x.r (o.take k) i a t).1) (hle:le=(K.aG x.nd x.l x.s x.r (o.take k) i a t).2) (h0:le=0)
  (hb:af wr w5)
  (hown:w6.ownsRow (wS.heap.size + 1) 3 1 tv' (k + 1) (intCells (ts ++ [lb]))) (hgrow:(w5.alloc (.cells #[.int .i64 lb] 3)).grownBy w6 tv.ownBlock)
  (hno:0<=(K.req x.r i).node/\(K.req x.r i).node < x.nd) (hse:0<=(K.req x.r i).service):FY x o wS S (k + 1) tv' (K.req x.r i).node (lb + (K.req x.r i).service) (ts ++ [lb]) (w6.setCell ⟨wS.heap.size,2,none⟩ tv'):=by
 subst hlb;have hl:(K.aG x.nd x.l x.s x.r (o.take k) i a t).2=0:=by rw [<-hle];exact h0
 have hlt:∀ g,tv.ownBlock=some g->wS.heap.size + 1<=g/\g < wr.heap.size:=λg e=>h.own.lt g e;have hs6:=hgrow.size;rw [aF] at hs6;have ba:af w5 (w5.alloc (.cells #[.int .i64 (K.aG x.nd x.l x.s x.r (o.take k) i a t).1] 3)):=ai.alloc (zG _) _;have b6:af wS w6:=dY (bel (bel h.bw hb) ba) hgrow (λg e=>by have:=(hlt g e).1;omega);have jh:jr w6 wS.heap.size 0 S tv 0:=iV hgrow ((h.blk.below hb).below ba) (λe=>by have:=(hlt _ e.symm).1;omega);obtain ⟨-,-,-,l4,l5,l6,l7⟩:=K.zW hl;obtain ⟨-,r2,r3,-⟩:=K.rX l4;obtain ⟨-,-,-,f1,f2⟩:=H.oZ l5;refine ⟨?_,by rw [cZ,h.len];rfl,di jh 2 _,?_,hno,?_,b6.setCell (zG _) _⟩
 ·rw [h.aB,K.UK hi hl,jb];rfl
 ·exact ownsRow_setCell_below hown (Nat.lt_succ_self _) _
 ·have:=h.t0;rw [l6] at l7 ⊢;omega
theorem adu (x:C) (V:aj) (vn vc:Nat) (o:ag) (w:World) (hx:At w x) (hV:Ints w V vn o) (jV:vn<=vc) (hvn:vn<=100000) :
  ay 131 #[.agg #[.int .i64 x.nd,.slice x.A x.n x.c],fG x.s,.slice x.B x.m x.d,.slice V vn vc] w λe w'=>J3 w w' (K.run x.nd x.l x.s x.r o) e:=by
 obtain ⟨w1,hw1⟩:=zB (w.alloc (.cells #[.int .i64 x.nd,.slice x.A x.n x.c] 24));obtain ⟨w2,hw2⟩:=zB (w1.alloc (.cells #[.int .i64 x.s.day,.int .i64 x.s.ax,.int .i64 x.s.start,.int .i64 x.s.end_,.int .i64 x.s.aU,.slice x.s.A x.s.n x.s.c] 63));obtain ⟨w3,hw3⟩:=zB (w2.alloc (.cells #[.int .i64 0,.slice none 0 0,.slice none 0 0,.int .i64 0] 80));have z1:w1.heap.size=w.heap.size + 1:=by rw [hw1];exact aF _ _
 have z2:w2.heap.size=w.heap.size + 1 + 1:=by rw [hw2,aF,z1]
 have z3:w3.heap.size=w.heap.size + 1 + 1 + 1:=by rw [hw3,aF,z2]
 have b01:=aH hw1;have b12:=aH hw2;have bQ:=aH hw3;have hP:Net w3 w.heap.size x.nd x.A x.n x.c:=by
  have h1:Net w1 w.heap.size x.nd x.A x.n x.c:=by rw [hw1];exact Net.new _ _ _ _ _
  exact (h1.below b12).below bQ
 have hS:bI w3 (w.heap.size + 1) x.s:=by
  have h1:bI w2 (w.heap.size + 1) x.s:=by rw [<-z1,hw2];exact bI.new _ _
  exact h1.below bQ
 have hR:kZ w3 (w.heap.size + 1 + 1) (.slice none 0 0) (.slice none 0 0) 0:=by rw [<-z2,hw3];exact aA _ _
 have b3:=bel (bel b01 b12) bQ;have p0:=hP.c0;have p1:=hP.c1;obtain ⟨s0,s1,s2,s3,s4,s5⟩:=hS.cells;have Z3:=zC z3;rw [hw3,hw2,hw1] at p0 p1 s0 s1 s2 s3 s4 s5;go_enter Tryz.func131,Tryz.ntmps131;go_wp2_with fail;rw [<-hw1,<-hw2,<-hw3];clear hw1 hw2 hw3 z1 z2 z3 b01 b12 bQ p0 p1 s0 s1 s2 s3 s4 s5;refine (ado x V vn vc o _ (hx.below b3) (hV.below b3) (by omega)).mono ?_;rintro e w4 ⟨rfl,iw⟩;have hP:=hP.below iw;have hS:=hS.below iw;have hR:=hR.below iw (by rw [Z3.out];omega);have b4:=bel b3 iw;clear b3;cases hr:K.right x.nd x.l x.s x.r o
 ·have HX:=zC (show K.run x.nd x.l x.s x.r o=⟨K.Tr.zero,1,0⟩ by unfold K.run;rw [if_pos hr]);clear hr;obtain ⟨r0,r1,r2,r3⟩:=hR.cells;have f0:=hR.free 0;have f1:=hR.free 1;have f2:=hR.free 2;have f3:=hR.free 3;go_wp2_with fail;refine jc (v:=.tuple #[.agg #[.int .i64 0,.slice none 0 0,.slice none 0 0,.int .i64 0],.int .i64 1,.int .i64 0]) ?_ rfl ?_
  ·obtain ⟨z0,z1,z2,z3⟩:=(hR.set (.slice none 0 0) (.slice none 0 0) 0).cells;rw [xQ rfl];simp [go_sem,z0,z1,z2,z3]
  ·exact Dk HX.out (mX b4 (by omega) _ _ _ _)
 ·obtain ⟨hne,hld,hdp,hno⟩:=K.Ad hr;obtain ⟨hck,hset,hall⟩:=T.mO hld;obtain ⟨-,⟨d0,d1⟩,st0,st1,tC⟩:=K.tu hck;have DI:=zC (T.EN hset);have Ap:=zC hall;have FM:=zC hno;have j_:=zC hr;have iq:=zC hne;clear hr hne hld hset hall hck hno;obtain ⟨i0,hi,hz0,hz1,hz2⟩:=info_parts Tryz.info3;have hrs:w.heap.size + 1 + 1 < w4.heap.size:=by have:=iw.size;have:=Z3.out;omega
  have bM:=zC hV.1;have iK:(w4.alloc (.cells #[] 3)).ownsRow w4.heap.size 3 1 (.slice (some ⟨w4.heap.size,0,none⟩) 0 0) 0 []:=uy (aA w4 (.cells #[] 3)) (zG _);have Qq:af w4 (w4.alloc (.cells #[] 3)):=ai.alloc (zG _) _;go_wp2_with (at_builtin;refine nU rfl (.tmp 25) (.tmp 26) 48 rfl w4.heap.size 3 i0 (.int .i64 0) 1 8 Tryz.underlying48 hi hz0 hz1 hz2 rfl (by decide) (.slice (some ⟨w4.heap.size,0,none⟩) 0 0) 0 [] rfl iK V vn vc (intCells o) rfl (hV.below (bel b4 Qq)).2 (qI o) (by simp only [maxLen];omega) (by omega) (by first | (simp;done) | (simp;omega)) ?_;intro v' w5 hown5 Ep aha;rw [Nat.zero_add,List.nil_append] at hown5;obtain ⟨SA,sc,rfl,g_⟩:=o_ hown5 bM.out;have jA:=(λad (e:SA=some ad)=>(hown5.lt _ (by rw [e];rfl)));have bJ:af w4 w5:=dY Qq Ep (CQ (zG _));have yO:af w5 (w5.alloc (.cells #[.int .i64 0,.slice SA vn sc,.slice none 0 0,.int .i64 0] 80)):=ai.alloc (zG _) _;have g1:=((hS.below bJ).below yO).cells.2.1;have g2:=((hS.below bJ).below yO).cells.2.2.1);have b5:=bel b4 bJ;have hP:=hP.below bJ;have hS:=hS.below bJ;have hR:=hR.below bJ hrs;have Ua:w.heap.size + 1 + 1 < w5.heap.size:=by have:=bJ.size;omega
  have uu:FY x o w5 (.slice SA vn sc) 0 (.slice none 0 0) x.s.ax x.s.start [] (w5.alloc (.cells #[.int .i64 0,.slice SA vn sc,.slice none 0 0,.int .i64 0] 80)) :=
   ⟨by simp,rfl,aA w5 _,kF _ _ _ _,⟨d0,hdp⟩,⟨st0,by omega⟩,yO⟩
  clear hown5 Ep aha iK Qq hi hz0 hz1 hz2 bJ g1 g2 yO iw;go_loopw [12,13,14] (λv12 v13 v14 wr=>∃ (k:Nat) (tv:Value) (a t:Int) (ts:ag),v12=.int .i64 t/\v13=.int .i64 a/\v14=.int .i64 k/\k<=vn/\FY x o w5 (.slice SA vn sc) k tv a t ts wr) (λ_ _ v14 _=>vn - (intOf v14).toNat)
  case atStart=>exact ⟨0,_,_,_,[],rfl,rfl,rfl,by omega,uu⟩
  case round =>
   clear uu;obtain ⟨k,tv,a,t,ts,rfl,rfl,rfl,hk,hrr⟩:=hrel;have hbr:=hrr.bw;have hbw:=bel b5 hbr;have hSr:=hS.below hbr;have y_:=hP.below hbr;by_cases hlt:k < vn
   ·obtain ⟨jJ,i,rfl,hi,KN⟩:=hV.at_ hlt;have ci:=(hbw.cell (cell_lt KN)).trans KN;have him:=zD hi;obtain ⟨hi0,hi1⟩:=DI.out i him;obtain ⟨j,rfl⟩:∃ j:Nat,i=(j:Int):=⟨i.toNat,by omega⟩;obtain ⟨q,hq⟩:∃ q,x.r[j]? = some q:=⟨_,zF (by omega)⟩;obtain ⟨⟨n0,-⟩,⟨e0,e1⟩,-⟩:=K.Dl (Ap.out q (zD hq));have hnq:=FM.out _ him;rw [K.lZ hq] at hnq;have fQ:=zC (K.lZ hq);have HI:=zC hi;have HRR:=zC hrr;have ha0:=hrr.a0;have ht0:=hrr.t0;have him:j < x.m:=by rw [hx.bf.1];omega
    obtain ⟨j0,j1⟩:=zJ (a:=j) (b:=x.m) (by omega);obtain ⟨uT,q',hB,hgq,-,y0,-,-,y3,-⟩:=hx.bf.at_ him;rw [hq] at hgq;injection hgq with hgq;subst hgq;obtain ⟨lb,hlb⟩:=zB ((K.aG x.nd x.l x.s x.r (o.take k) j a t).1);obtain ⟨le,hle⟩:=zB ((K.aG x.nd x.l x.s x.r (o.take k) j a t).2);have hAr:=hx.below hbw;have hIk:∀ w',af wr w'->Ints w' (some jJ) k (o.take k):=λw' h=>(hV.below (bel hbw h)).take (by omega);have CL:=λz:ak wr=>aiB x (some jJ) k vc (o.take k) j q a t z.val (hAr.below z.property) (hIk _ z.property) (by omega) iq.out ha0 hq ⟨n0,hnq⟩ ht0 ⟨e0,e1⟩;unfold P9 at CL;simp only [<-hlb,<-hle,hB] at CL;rw [hB];clear hB;obtain ⟨s0,s1,s2,s3,s4,s5⟩:=hSr.cells;have g0:=ak.cell y_.c0;have g1:=ak.cell y_.c1;have f0:=ak.cell s0;have f1:=ak.cell s1;have f2:=ak.cell s2;have f3:=ak.cell s3;have f4:=ak.cell s4;have f5:=ak.cell s5;have fi:=ak.cell ci;have k0:(0:Int)<=(k:Int):=by omega
    have k1:(k:Int)<=(vc:Int):=by omega
    have k2:(k:Int) < (vn:Int):=by omega
    have oK:=zC hlb;have wG:=zC hle;clear hi him hrr hlb hle s0 s1 s2 s3 s4 s5;go_wp2_with fail;refine fV (by kernel_rfl) (by kernel_rfl) ?_;repeat (go_big_quiet_step ((go_at_call 180;exact ak.calls (CL _))))
    refine wpQuiet_nil ?_;rintro w6 ⟨⟨_,dI⟩,rfl⟩;have MC:=bel hbw dI;have jK:=hR.below (bel hbr dI) Ua;clear CL g0 g1 f0 f1 f2 f3 f4 f5 fi;cases h0:(le == 0)
    ·have h0':(le != 0)=true:=by simp [bne,h0]
     have hne0:le ≠ 0:=by simpa using h0
     have HX:=zC (show K.run x.nd x.l x.s x.r o=⟨K.Tr.zero,le,k⟩ by
      rw [K.Ji j_.out HRR.out.aB,K.UJ HI.out (by rw [<-wG.out];exact hne0),<-wG.out,if_pos hne0];simp [HRR.out.len])
     obtain ⟨r0,r1,r2,r3⟩:=jK.cells;have f0:=jK.free 0;have f1:=jK.free 1;have f2:=jK.free 2;have f3:=jK.free 3;clear h0 hne0;go_wp2_with fail;refine jc (v:=.tuple #[.agg #[.int .i64 0,.slice none 0 0,.slice none 0 0,.int .i64 0],.int .i64 le,.int .i64 k]) ?_ rfl ?_
     ·obtain ⟨z0,z1,z2,z3⟩:=(jK.set (.slice none 0 0) (.slice none 0 0) 0).cells;rw [xQ rfl];simp [go_sem,z0,z1,z2,z3]
     ·exact Dk HX.out (mX MC (by omega) _ _ _ _)
    ·have h0':(le != 0)=false:=by simp [bne,h0]
     have hee:le=0:=by simpa using h0
     have wJ:=zC (show (0:Int)=(K.aG x.nd x.l x.s x.r (List.take k o) j a t).2 by rw [<-hee];exact wG.out);have jh:=HRR.out.blk.below dI;have u2:=jh.cells.2.2.1;have hown6:(w6.alloc (.cells #[.int .i64 lb] 3)).ownsRow (w5.heap.size + 1) 3 1 tv k (intCells ts):=(own_below HRR.out.own dI).alloc _;have XQ:af w6 (w6.alloc (.cells #[.int .i64 lb] 3)):=ai.alloc (zG _) _;have hs5:=dI.size;have hs4:=hbr.size;have hbL:=HRR.out.own.lt;have hlk:=K.zW (nd:=x.nd) (l:=x.l) (s:=x.s) (r:=x.r) (v:=List.take k o) (i:=j) (a:=a) (t:=t) wJ.out.symm;have ahA:0<=lb/\lb<=1000000:=by
      obtain ⟨-,-,-,l4,l5,l6,l7⟩:=hlk;obtain ⟨-,-,-,f1,f2⟩:=H.oZ l5;obtain ⟨-,r2,r3,-⟩:=K.rX l4;have h9:=oK.out;rw [l6] at h9 l7;rw [fQ.out] at *;omega
     obtain ⟨lb0,lb1⟩:=ahA;have hwrap:IntKind.i64.wrap (lb + q.service)=lb + q.service:=dh _ (by omega);have hs6:w5.heap.size + 1<=(w6.alloc (.cells #[.int .i64 lb] 3)).heap.size:=by rw [aF];omega
     clear h0 hlk;subst hee;go_wp2_with (at_builtin;refine wU rfl (.tmp 61) (.tmp 63) rfl (w5.heap.size + 1) tv k ts rfl hown6 w6.heap.size lb rfl (bU _ _ _ rfl) (by omega) hs6 ?_;intro tv' w7 jO xB qC;obtain ⟨A7,c7,rfl,-,-⟩:=fP jO;have LU:=iV xB (jh.below XQ) (λe=>(by have:=(hbL _ e.symm).1;omega));have v2:=b_ LU 2;have v2c:=ah LU 2 _ rfl;have b7:af w5 w7:=dY (bel (bel hbr dI) XQ) xB (λg e=>(by have:=(hbL g e).1;omega));have b8:af w (w7.setCell ⟨w5.heap.size,2,none⟩ (.slice A7 (k + 1) c7)):=bel b5 (b7.setCell (zG _) _);have yy0:=(b8.cell (cell_lt y0)).trans y0;have yy3:=(b8.cell (cell_lt y3)).trans y3;have ci8:=(b8.cell (cell_lt KN)).trans KN);have hN:=HRR.out.next HI.out oK.out wJ.out rfl dI jO xB (by rw [fQ.out];exact ⟨n0,hnq⟩) (by rw [fQ.out];exact e0);rw [fQ.out] at hN;go_roundw
     case rel=>exact ⟨k + 1,.slice A7 (k + 1) c7,_,_,ts ++ [lb],rfl,rfl,by go_num,by omega,hN⟩
     case measure=>simp [intOf];omega
   ·have hkv:vn=k:=by omega
    subst hkv;have hto:o.take vn=o:=fD (by rw [<-hV.1];omega);have hdo:o.drop vn=[]:=dF (by rw [<-hV.1];omega);have hl0:=hrr.aB;rw [hto,hdo] at hl0;have hl1:K.aB x.nd x.l x.s x.r [] x.s.ax x.s.start o=⟨ts,a,t,0⟩:=by rw [hl0];simp [K.aB]
    have o5:=K.Ji j_.out hl1;simp only [ne_eq,not_true_eq_false,if_false] at o5;have aS:=zC o5;obtain ⟨A7,c7,rfl,oz⟩:=o_ hrr.own hrr.len.symm;have uY:∀ ad,A7=some ad->w5.heap.size + 1<=ad.block:=λad e=>(hrr.own.lt _ (by rw [e];rfl)).1;have hblk:=hrr.blk;have ha0:=hrr.a0;have ht0:=hrr.t0;clear hrr hto hdo hl0 hl1 o5;obtain ⟨dn,hdn⟩:∃ dn:Nat,x.s.ax=(dn:Int):=⟨x.s.ax.toNat,by omega⟩;obtain ⟨s0,s1,s2,s3,s4,s5⟩:=hSr.cells;have g0:=ak.cell y_.c0;have g1:=ak.cell y_.c1;have f0:=ak.cell s0;have f1:=ak.cell s1;have f2:=ak.cell s2;have f3:=ak.cell s3;have f4:=ak.cell s4;have f5:=ak.cell s5;have mZ:=hx.below hbw;have pX:=hV.below hbw;obtain ⟨wt,hwt⟩:=zB (T.weight x.s x.r o);obtain ⟨y,hy⟩:=zB (K.way x.nd x.l a wt x.s.ax);have ahq:(dn:Int) < x.nd:=by omega
    have CW:=λj:ak wr=>Oo x.s x.B x.m x.d x.r V vn vc o j.val ((mZ.below j.property).gW) hx.b2 ((mZ.below j.property).bf) hx.b3 hx.b4 (pX.below j.property) (by omega);have CY:=λj:ak wr=>adC x.nd x.A x.n x.c x.l a dn wt j.val ((mZ.below j.property).net) hx.b1 iq.out ha0 ahq;simp only [<-hwt] at CW;simp only [<-hdn,<-hy] at CY;have hyb:=K.jY x.nd x.l a wt x.s.ax;rw [<-hy] at hyb;obtain ⟨hy0,hy1⟩:=hyb;have HY:=zC (show K.way x.nd x.l a (T.weight x.s x.r o) x.s.ax=y by rw [<-hwt,hy]);clear hy hwt hdn s0 s1 s2 s3 s4 s5;go_wp2_with fail;refine fV (by kernel_rfl) (by kernel_rfl) ?_;repeat (go_big_quiet_step ((first | (go_at_call 146;exact ak.calls (CW _)) | (go_at_call 181;exact ak.calls (CY _)))))
    refine wpQuiet_nil ?_;rintro w6 ⟨⟨_,dI⟩,rfl⟩;clear CW CY g0 g1 f0 f1 f2 f3 f4 f5 mZ pX;have MC:=bel hbw dI;have b6:=bel hbr dI;have jK:=hR.below b6 Ua;have jh:=hblk.below dI;obtain ⟨s0,s1,s2,s3,s4,s5⟩:=(hSr.below dI).cells;obtain ⟨r0,r1,r2,r3⟩:=jK.cells;have f0:=jK.free 0;have f1:=jK.free 1;have f2:=jK.free 2;have f3:=jK.free 3;cases h1:decide (y < 0);rotate_left
    ·have HX:=zC (show K.run x.nd x.l x.s x.r o=⟨K.Tr.zero,4,vn⟩ by
      have hr:K.reach x.nd x.l x.s x.r o a t x.s.ax=(0,4):=by unfold K.reach;rw [HY.out,if_pos (by have h1:=iH h1;omega)]
      rw [aS.out,hr,if_pos (by decide),<-bM.out])
     go_wp2_with fail;refine jc (v:=.tuple #[.agg #[.int .i64 0,.slice none 0 0,.slice none 0 0,.int .i64 0],.int .i64 4,.int .i64 vn]) ?_ rfl ?_
     ·obtain ⟨z0,z1,z2,z3⟩:=(jK.set (.slice none 0 0) (.slice none 0 0) 0).cells;rw [xQ rfl];simp [go_sem,z0,z1,z2,z3]
     ·exact Dk HX.out (mX MC (by omega) _ _ _ _)
    have hyp:¬ y < 0:=of_decide_eq_false h1;have hwrap:IntKind.i64.wrap (t + y)=t + y:=dh _ (by omega);cases h2:decide (x.s.end_ < t + y);rotate_left
    ·have HX:=zC (show K.run x.nd x.l x.s x.r o=⟨K.Tr.zero,18,vn⟩ by
      have hr:K.reach x.nd x.l x.s x.r o a t x.s.ax=(0,18):=by unfold K.reach;rw [HY.out,if_neg (by omega),if_pos (iH h2)]
      rw [aS.out,hr,if_pos (by decide),<-bM.out])
     go_wp2_with fail;refine jc (v:=.tuple #[.agg #[.int .i64 0,.slice none 0 0,.slice none 0 0,.int .i64 0],.int .i64 18,.int .i64 vn]) ?_ rfl ?_
     ·obtain ⟨z0,z1,z2,z3⟩:=(jK.set (.slice none 0 0) (.slice none 0 0) 0).cells;rw [xQ rfl];simp [go_sem,z0,z1,z2,z3]
     ·exact Dk HX.out (mX MC (by omega) _ _ _ _)
    have h2':¬ x.s.end_ < t + y:=of_decide_eq_false h2;have HX:=zC (show K.run x.nd x.l x.s x.r o=⟨⟨o,ts,t + y⟩,0,o.length⟩ by
     have hr:K.reach x.nd x.l x.s x.r o a t x.s.ax=(t + y,0):=by unfold K.reach;rw [HY.out,if_neg (by omega),if_neg h2']
     rw [aS.out,hr];simp)
    clear hyp h2' r0 r1 r2 r3 f0 f1 f2 f3;have v3:=b_ jh 3;have v3c:=ah jh 3 _ rfl;have b7:af w5 (w6.setCell ⟨w5.heap.size,3,none⟩ (.int .i64 (t + y))):=b6.setCell (zG _) _;have LU:jr (w6.setCell ⟨w5.heap.size,3,none⟩ (.int .i64 (t + y))) w5.heap.size 0 (.slice SA vn sc) (.slice A7 vn c7) (t + y):=di jh 3 _;obtain ⟨y0,y1,y2,y3⟩:=LU.cells;have zg:=hR.below b7 Ua;obtain ⟨r0,r1,r2,r3⟩:=zg.cells;have f0:=zg.free 0;have f1:=zg.free 1;have f2:=zg.free 2;have f3:=zg.free 3;have Bo:Ints (w6.setCell ⟨w5.heap.size,3,none⟩ (.int .i64 (t + y))) SA vn o:=(g_.below b6).set _ (λad e=>by have:=jA ad e;omega);have lU:Ints (w6.setCell ⟨w5.heap.size,3,none⟩ (.int .i64 (t + y))) A7 vn ts:=(oz.below dI).set _ (λad e=>by have:=uY ad e;omega);go_wp2_with fail;refine jc (v:=.tuple #[.agg #[.int .i64 0,.slice SA vn sc,.slice A7 vn c7,.int .i64 (t + y)],.int .i64 0,.int .i64 vn]) ?_ rfl ?_
    ·obtain ⟨z0,z1,z2,z3⟩:=(zg.set (.slice SA vn sc) (.slice A7 vn c7) (t + y)).cells;rw [xQ rfl];simp [go_sem,z0,z1,z2,z3]
    ·exact ac2 HX.out rfl (by rw [bM.out]) (bel b5 b7) Bo lU (λad e=>by have:=jA ad e;omega) (λad e=>by have:=uY ad e;omega) (by omega) rfl
end Go.Proofs.YtippdjmpkafifaaGreat
