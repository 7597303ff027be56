import Derived.Test.YtippdjmpkafifaaGreatCR12
import Derived.Test.YtippdjmpkafifaaGreatCR15
import Derived.Test.YtippdjmpkafifaaGreatCR10
import Derived.Test.YtippdjmpkafifaaGreatCR13
import Derived.Test.YtippdjmpkafifaaGreatCR7
import Derived.Test.YtippdjmpkafifaaGreatCR14
set_option maxRecDepth 100000
set_option maxHeartbeats 64000000
namespace Go.Proofs.YtippdjmpkafifaaGreat
open Go.RowKit
theorem Q.bare_eq {a b:Q} (h:a.bare=b.bare):a.node=b.node/\a.room=b.room/\a.a_=b.a_/\a.service=b.service/\a.aI=b.aI/\a.aP=b.aP/\a.l=b.l:=by
 unfold Q.bare at h;injection h with h1 h2 h3 h4 h5 h6 _ _ _ h7;exact ⟨h1,h2,h3,h4,h5,h6,h7⟩
theorem ald (a b:Q) (w:World) (ha:dA w a.A a.n a.l) (hb:dA w b.A b.n b.l) (h:a.bare=b.bare) (hn:a.n<=1000000000) :
  ay 60 #[iL a,iL b] w (bg w true):=by
 obtain ⟨a1,a2,a3,a4,a5,a6,Aa,na,ca,la⟩:=a;obtain ⟨b1,b2,b3,b4,b5,b6,Ab,nb,cb,lb⟩:=b;obtain ⟨h1,h2,h3,h4,h5,h6,h7⟩:=Q.bare_eq h;dsimp only at h1 h2 h3 h4 h5 h6 h7 ha hb hn;obtain rfl:nb=na:=by rw [ha.1,hb.1,h7]
 subst h1 h2 h3 h4 h5 h6 h7;clear h;obtain ⟨w1,hw1⟩:=zB (w.alloc (.cells #[.int .i64 a1,.int .i64 a2,.int .i64 a3,.int .i64 a4,.int .i64 a5,.int .i64 a6,.slice Aa nb ca] 47));have b01:=aH hw1;obtain ⟨g,hg⟩:=zB w.heap.size;have hA1:dV w1 g ⟨a1,a2,a3,a4,a5,a6,Aa,nb,ca,la⟩:=by rw [hw1,hg];exact aA _ _
 obtain ⟨w2,hw2⟩:=zB (w1.alloc (.cells #[.int .i64 a1,.int .i64 a2,.int .i64 a3,.int .i64 a4,.int .i64 a5,.int .i64 a6,.slice Ab nb cb] 47));have b12:=aH hw2;have z1:w1.heap.size=g + 1:=by rw [hw1,hg];exact aF _ _
 have hB2:dV w2 (g + 1) ⟨a1,a2,a3,a4,a5,a6,Ab,nb,cb,la⟩:=by rw [hw2,<-z1];exact aA _ _
 have hA2:=hA1.below b12;have hb2:=bel b01 b12;obtain ⟨c0,c1,c2,c3,c4,c5,c6⟩:=hA2.cells;obtain ⟨d0,d1,d2,d3,d4,d5,d6⟩:=hB2.cells;have ee:∀ z:Int,(z != z)=false:=λz=>by simp
 go_enter Tryz.func60,Tryz.ntmps60;go_wp2_with fail;rw [<-hw1,<-hg,<-hw2];clear hw1 hg hw2 hA1 b01 b12 z1;clear c0 c1 c2 c3 c4 c5 c6 d0 d1 d2 d3 d4 d5 d6;go_loopw [5] (λv wr=>∃ k:Nat,v=.int .i64 k/\k<=nb/\af w2 wr) (λv _=>nb - (intOf v).toNat)
 case atStart=>exact ⟨0,rfl,aW _,ai⟩
 case round =>
  obtain ⟨k,rfl,hk,hbr⟩:=hrel;have hbw:=bel hb2 hbr;have c6:=(hA2.below hbr).cells.2.2.2.2.2.2;have d6:=(hB2.below hbr).cells.2.2.2.2.2.2;dsimp only at c6 d6;by_cases hlt:k < nb
  ·obtain ⟨ad,o,e,hA,hl,q0,q1⟩:=(ha.below hbw).at_ hlt;obtain ⟨lM,o2,e2,hB,hl2,r0,r1⟩:=(hb.below hbw).at_ hlt;rw [hl] at hl2;injection hl2 with hl2;injection hl2 with ho he;subst ho he;obtain ⟨k0,k1⟩:=zJ (a:=k) (b:=nb) (by omega);rw [hA] at c6;rw [hB] at d6;clear hl hA hB;go_wp2_with fail;go_quiet (fail);go_wp2_with fail;go_roundw
   case rel=>exact ⟨k + 1,by go_num,hlt,below_drewN hbr _⟩
   case measure=>simp [intOf];omega
  ·obtain ⟨hd,hd2⟩:=zL (a:=k) (b:=nb) (by omega);go_wp2_with fail;go_ret;exact ⟨rfl,hbw⟩
theorem ale (A B:aj) (n m c d:Nat) (la lb:List Q) (w:World) (ha:dm w A n la) (hb:dm w B m lb) (h:la.map Q.bare=lb.map Q.bare) (hn:n<=1000000000) (hq:∀ p ∈ la,p.n<=1000000000) :
  ay 41 #[.slice A n c,.slice B m d] w (bg w true):=by
 obtain rfl:m=n:=by
  have:=congrArg List.length h;rw [bu,bu] at this;rw [ha.1,hb.1,this]
 have HM:=zC h;clear h;have ee:∀ z:Int,(z != z)=false:=λz=>by simp
 go_enter Tryz.func41,Tryz.ntmps41;go_wp2_with fail;go_loopw [5] (λv wr=>∃ k:Nat,v=.int .i64 k/\k<=m/\af w wr) (λv _=>m - (intOf v).toNat)
 case atStart=>exact ⟨0,rfl,aW _,ai⟩
 case round =>
  obtain ⟨k,rfl,hk,hbr⟩:=hrel;by_cases hlt:k < m
  ·obtain ⟨ad,p,hA,hp,Zm,c0,c1,c2,c3,c4,c5,c6⟩:=(ha.below hbr).at_ hlt;obtain ⟨lM,q,hB,hq2,Zn,d0,d1,d2,d3,d4,d5,d6⟩:=(hb.below hbr).at_ hlt;have hpq:p.bare=q.bare:=by
    have e1:(la.map Q.bare)[k]? = some p.bare:=by rw [dG,hp];rfl
    rw [HM.out,dG,hq2] at e1;injection e1 with e1;exact e1.symm
   have hpn:=hq p (zD hp);have CK:∀ i:ak wr,ay 60 #[iL p,iL q] i.val (bg i.val true):=λi=>ald p q i.val (Zm.below i.property) (Zn.below i.property) hpq hpn;obtain ⟨k0,k1⟩:=zJ (a:=k) (b:=m) (by omega);have e0:=ak.cell c0;have e1:=ak.cell c1;have e2:=ak.cell c2;have e3:=ak.cell c3;have e4:=ak.cell c4;have e5:=ak.cell c5;have e6:=ak.cell c6;have f0:=ak.cell d0;have f1:=ak.cell d1;have f2:=ak.cell d2;have f3:=ak.cell d3;have f4:=ak.cell d4;have f5:=ak.cell d5;have f6:=ak.cell d6;clear hp hq2 hpq hpn Zm Zn c0 c1 c2 c3 c4 c5 c6 d0 d1 d2 d3 d4 d5 d6;rw [hA,hB];clear hA hB;go_upto_region 6 with fail;refine fV (by kernel_rfl) (by kernel_rfl) ?_;repeat (go_big_quiet_step ((go_at_call 60;exact ak.calls (CK _))))
   refine wpQuiet_nil ?_;rintro w4 ⟨⟨w4,b4⟩,rfl⟩;have hb4:=bel hbr b4;clear CK e0 e1 e2 e3 e4 e5 e6 f0 f1 f2 f3 f4 f5 f6;go_wp2_with fail;go_roundw
   case rel=>exact ⟨k + 1,by go_num,hlt,hb4⟩
   case measure=>simp [intOf];omega
  ·obtain ⟨hd,hd2⟩:=zL (a:=k) (b:=m) (by omega);go_wp2_with fail;go_ret;exact ⟨rfl,hbr⟩
theorem adD (nd:Int) (A:aj) (n c:Nat) (l:List Ro) (SA:aj) (sn sc:Nat) (sa:List S) (B:aj) (m d:Nat) (ra:List Q) (A':aj) (c':Nat) (J4:aj) (sc':Nat) (sb:List S) (B':aj) (d':Nat) (rb:List Q) (w:World) (hA:gq w A n l) (hA':gq w A' n l) (hS:Shifts w SA sn sa) (hS':Shifts w J4 sn sb) (hQ:dm w B m ra) (hQ':dm w B' m rb) (hss:sa.map S.bare=sb.map S.bare) (hrr:ra.map Q.bare=rb.map Q.bare) (hn:n<=1000000000) (hsn:sn<=1000000000) (hm:m<=1000000000) (hs:∀ y ∈ sa,y.n<=1000000000) (hr:∀ y ∈ ra,y.n<=1000000000) :
  ay 35 #[.agg #[.int .i64 nd,.slice A n c,.slice SA sn sc,.slice B m d],.agg #[.int .i64 nd,.slice A' n c',.slice J4 sn sc',.slice B' m d']] w (bg w true):=by
 have HM:=zC hss;have HR:=zC hrr;clear hss hrr;have ee:∀ z:Int,(z != z)=false:=λz=>by simp
 have e2:∀ z:Int,(z == z)=true:=λz=>by simp
 obtain ⟨w1,hw1⟩:=zB (w.alloc (.cells #[.int .i64 nd,.slice A n c,.slice SA sn sc,.slice B m d] 44));obtain ⟨g,hg⟩:=zB w.heap.size;have b1:=aH hw1;have hX1:w1.heap[g]? = some (.cells #[.int .i64 nd,.slice A n c,.slice SA sn sc,.slice B m d] 44 (0,0)):=by rw [hw1,hg];exact aA _ _
 obtain ⟨w2,hw2⟩:=zB (w1.alloc (.cells #[.int .i64 nd,.slice A' n c',.slice J4 sn sc',.slice B' m d'] 44));have b2:=aH hw2;have z1:w1.heap.size=g + 1:=by rw [hw1,hg];exact aF _ _
 have hY2:w2.heap[g + 1]? = some (.cells #[.int .i64 nd,.slice A' n c',.slice J4 sn sc',.slice B' m d'] 44 (0,0)):=by rw [hw2,<-z1];exact aA _ _
 have hX2:=au b2 hX1;have hb2:=bel b1 b2;go_enter Tryz.func35,Tryz.ntmps35;go_upto_region 1 with fail;rw [<-hw1,<-hg,<-hw2];clear hw1 hg hw2 hX1 b1 b2 z1;have x0:=ah hX2 0 _ rfl;have y0:=ah hY2 0 _ rfl;have x1:=ah hX2 1 _ rfl;have y1:=ah hY2 1 _ rfl;have x2:=ah hX2 2 _ rfl;have y2:=ah hY2 2 _ rfl;have x3:=ah hX2 3 _ rfl;have y3:=ah hY2 3 _ rfl;go_wp2_with fail;clear x0 x1 x2 x3 y0 y1 y2 y3;go_loopw [5] (λv wr=>∃ k:Nat,v=.int .i64 k/\k<=n/\af w2 wr) (λv _=>n - (intOf v).toNat)
 case atStart=>exact ⟨0,rfl,aW _,ai⟩
 case round =>
  obtain ⟨k,rfl,hk,hbr⟩:=hrel;have hbw:=bel hb2 hbr;have x1:=ah (au hbr hX2) 1 _ rfl;have y1:=ah (au hbr hY2) 1 _ rfl;by_cases hlt:k < n
  ·obtain ⟨ad,p,eA,hp,a0,a1,a2,a3⟩:=gq.at_ (aX.below hA hbw) hlt;obtain ⟨lM,q,Yz,hq,c0,c1,c2,c3⟩:=gq.at_ (aX.below hA' hbw) hlt;obtain rfl:q=p:=by rw [hp] at hq;injection hq with hq;exact hq.symm
   obtain ⟨k0,k1⟩:=zJ (a:=k) (b:=n) (by omega);obtain ⟨hd,hd2⟩:=zK (a:=k) (b:=n) (by omega);rw [eA] at x1;rw [Yz] at y1;clear hp hq eA Yz;go_wp2_with fail;go_quiet (fail);go_wp2_with fail;go_roundw
   case rel=>(go_light;exact ⟨k + 1,by go_num,hlt,by first | exact hbr | exact below_drewN hbr _⟩)
   case measure=>(go_light;simp [intOf];omega)
  ·obtain ⟨hd,hd2⟩:=zL (a:=k) (b:=n) (by omega);obtain ⟨wo,hwo⟩:=zB wr;subst hwo;have L6:=au hbr hX2;have ZR:=au hbr hY2;clear hX2 hY2;go_wp2_with fail;clear x1 y1 hd hd2;go_loopw [6] (λv wr=>∃ k:Nat,v=.int .i64 k/\k<=sn/\af wo wr) (λv _=>sn - (intOf v).toNat)
   case atStart=>exact ⟨0,rfl,aW _,ai⟩
   case round =>
    obtain ⟨k,rfl,hk,hbr⟩:=hrel;have hbq:=bel hbw hbr;have x2:=ah (au hbr L6) 2 _ rfl;have y2:=ah (au hbr ZR) 2 _ rfl;by_cases hlt:k < sn
    ·obtain ⟨ad,p,hA1,hp,hI,a0,a1,a2,a3,a4,a5⟩:=(hS.below hbq).at_ hlt;obtain ⟨lM,q,hB1,hq,hJ,b0,b1,b2,b3,b4,b5⟩:=(hS'.below hbq).at_ hlt;have hpq:p.bare=q.bare:=by
      have e1:(sa.map S.bare)[k]? = some p.bare:=by rw [dG,hp];rfl
      rw [HM.out,dG,hq] at e1;injection e1 with e1;exact e1.symm
     have hpn:=hs p (zD hp);have e0:p.day=q.day:=(congrArg S.day hpq:p.bare.day=q.bare.day);have e1:p.ax=q.ax:=(congrArg S.ax hpq:p.bare.ax=q.bare.ax);have e2:p.start=q.start:=(congrArg S.start hpq:p.bare.start=q.bare.start);have e3:p.end_=q.end_:=(congrArg S.end_ hpq:p.bare.end_=q.bare.end_);have e4:p.aU=q.aU:=(congrArg S.aU hpq:p.bare.aU=q.bare.aU);have e5:p.l=q.l:=(congrArg S.l hpq:p.bare.l=q.bare.l);have fU:q.n<=1000000000:=by rw [hJ.1,<-e5,<-hI.1];exact hpn
     obtain ⟨w6,hw6⟩:=zB (wr.alloc (.cells #[.int .i64 p.day,.int .i64 p.ax,.int .i64 p.start,.int .i64 p.end_,.int .i64 p.aU,.slice p.A p.n p.c] 63));obtain ⟨g6,kK⟩:=zB wr.heap.size;have c6:=aH hw6;have hP6:bI w6 g6 p:=by rw [hw6,kK];exact bI.new _ _
     obtain ⟨k0,k1⟩:=zJ (a:=k) (b:=sn) (by omega);have V3:∀ w',af wr w'->ay 93 #[.slice p.A p.n p.c,.slice q.A q.n q.c] w' λe w''=>e=.returned (.bool true)/\af w' w'':=λw' hb'=>by
      have h9:=EU p.A q.A p.n q.n p.c q.c p.l q.l w' (hI.below hb') (hJ.below hb') hpn fU;rw [zH e5] at h9;exact h9
     have aet:=zC V3;rw [<-e0] at b0;rw [<-e1] at b1;rw [<-e2] at b2;rw [<-e3] at b3;rw [<-e4] at b4;rw [hA1] at x2;rw [hB1] at y2;clear hp hq hpq hA1 hB1 e0 e1 e2 e3 e4 e5 V3 hpn fU hI hJ;go_upto_region 12 with fail;rw [<-hw6,<-kK];clear hw6 kK a0 a1 a2 a3 a4 a5;have y2:=(c6.cell (cell_lt y2)).trans y2;have b0:=(c6.cell (cell_lt b0)).trans b0;have b1:=(c6.cell (cell_lt b1)).trans b1;have b2:=(c6.cell (cell_lt b2)).trans b2;have b3:=(c6.cell (cell_lt b3)).trans b3;have b4:=(c6.cell (cell_lt b4)).trans b4;have b5:=(c6.cell (cell_lt b5)).trans b5;obtain ⟨w7,hw7⟩:=zB (w6.alloc (.cells #[.int .i64 p.day,.int .i64 p.ax,.int .i64 p.start,.int .i64 p.end_,.int .i64 p.aU,.slice q.A q.n q.c] 63));obtain ⟨g7,oG⟩:=zB w6.heap.size;have c7:=aH hw7;have hL7:w7.heap[g7]? = some (.cells #[.int .i64 p.day,.int .i64 p.ax,.int .i64 p.start,.int .i64 p.end_,.int .i64 p.aU,.slice q.A q.n q.c] 63 (0,0)):=by rw [hw7,oG];exact aA _ _
     go_upto_region 13 with fail;rw [<-hw7,<-oG];clear hw7 oG b0 b1 b2 b3 b4 b5;obtain ⟨a0,a1,a2,a3,a4,a5⟩:=(hP6.below c7).cells;obtain ⟨b0,b1,b2,b3,b4,b5⟩:=zX6 hL7;have X7:=bel c6 c7;go_wp2_with fail;refine (aet.out _ X7).mono ?_;rintro e w8 ⟨rfl,c8⟩;have hb8:=bel hbr (bel X7 c8);clear a0 a1 a2 a3 a4 a5 b0 b1 b2 b3 b4 b5;go_wp2_with fail;go_roundw
     case rel=>exact ⟨k + 1,by go_num,hlt,hb8⟩
     case measure=>simp [intOf];omega
    ·obtain ⟨hd,hd2⟩:=zL (a:=k) (b:=sn) (by omega);have x3:=ah (au hbr L6) 2 _ rfl;have x4:=ah (au hbr L6) 2 _ rfl;have u2:=ah (au hbr L6) 3 _ rfl;have u3:=ah (au hbr ZR) 3 _ rfl;have CR:=ale B B' m m d d' ra rb wr (hQ.below hbq) (hQ'.below hbq) HR.out hm hr;go_wp2_with fail;refine CR.mono ?_;rintro e w9 ⟨rfl,b9⟩;go_wp2_with fail;go_ret;exact ⟨rfl,bel hbq b9⟩
namespace A
theorem adV (s:Nat):∀ (d e:List Nat) (i:Int),share (d ++ e) s i=share d s i ++ share e s (i + d.length)
 | [],e,i=>by simp [share]
 | x :: d,e,i=>by
  rw [List.cons_append,share,share,adV s d e (i + 1),dQ];have h:i + 1 + (d.length:Int)=i + ((d.length + 1:Nat):Int):=by omega
  rw [h];split <;> rfl
def next (m:Nat):List Nat->Option (List Nat)
 | []=>none
 | x :: d=>match next m d with
  | some d'=>some (x :: d')
  | none=>if x + 1 < m then some ((x + 1) :: List.replicate d.length 0) else none
def Chain (m:Nat) (L:List (List Nat)) (z:Option (List Nat)):Prop:=∀ pre x post,L=pre ++ x :: post->next m x=(post.head?).or z
theorem chain_nil (m:Nat) (z:Option (List Nat)):Chain m [] z:=λpre x post h=>by simp at h
theorem afK {m:Nat}:∀ {L1 L2:List (List Nat)} {z:Option (List Nat)},Chain m L1 ((L2.head?).or z)->Chain m L2 z->Chain m (L1 ++ L2) z:=by
 intro L1 L2 z h1 h2 pre x post h;rcases List.append_eq_append_iff.1 h with ⟨a,e1,e2⟩ | ⟨a,e1,e2⟩
 ·-- pre=L1 ++ a,L2=a ++ x :: post
  exact h2 a x post e2
 ·-- L1=pre ++ a,x :: post=a ++ L2
  cases a with
  | nil =>
   rw [List.nil_append] at e2;exact h2 [] x post e2.symm
  | cons b a =>
   rw [List.cons_append] at e2;injection e2 with e3 e4;subst e3;have:=h1 pre x a e1;rw [this,e4];cases a with
   | nil=>rfl
   | cons c a=>rfl
theorem QJ {m:Nat} (hm:0 < m):∀ k,(exts m k).head? = some (List.replicate k 0)
 | 0=>rfl
 | k + 1=>by
  obtain ⟨m',rfl⟩:∃ m',m=m' + 1:=⟨m - 1,by omega⟩;rw [exts,List.range_succ_eq_map,List.flatMap_cons,List.head?_append,List.head?_map,QJ hm k];rfl
theorem Ya {m:Nat} (hm:0 < m):∀ k,Chain m (exts m k) none
 | 0=>λpre x post h=>by
  cases pre with
  | nil =>
   rw [exts,List.nil_append] at h;injection h with h1 h2;subst h1 h2;rfl
  | cons b pre =>
   rw [exts,List.cons_append] at h;injection h with h1 h2;exact absurd h2 (by simp)
 | k + 1=>by
  have ih:=Ya hm k;have hb:∀ s,Chain m ((exts m k).map (s :: ·)) (if s + 1 < m then some ((s + 1) :: List.replicate k 0) else none):=λs pre x post h=>by
   obtain ⟨L1,L2,e0,e1,e2⟩:=List.map_eq_append_iff.1 h;cases L2 with
   | nil=>cases e2
   | cons y L2 =>
    rw [List.map_cons] at e2;injection e2 with e3 e4;subst e3 e4;have hy:=ih L1 y L2 e0;have hyl:y.length=k:=(rV.1 (show y ∈ exts m k by rw [e0];simp)).1;rw [next,hy,hyl];cases L2 with
    | nil=>rfl
    | cons c L2=>rfl
  have hr:∀ n s,s + n=m->Chain m ((List.range' s n).flatMap λs=>(exts m k).map (s :: ·)) none:=by
   intro n;induction n with
   | zero=>intro s _;exact chain_nil m none
   | succ n ihn =>
    intro s hs;rw [List.range'_succ,List.flatMap_cons];refine afK ?_ (ihn (s + 1) (by omega));have h1:=hb s;have h2:(if s + 1 < m then some ((s + 1) :: List.replicate k 0) else none)=(((List.range' (s + 1) n).flatMap λs=>(exts m k).map (s :: ·)).head?).or none:=by
     cases n with
     | zero=>rw [if_neg (by omega)];rfl
     | succ n =>
      rw [if_pos (by omega),List.range'_succ,List.flatMap_cons,List.head?_append,List.head?_map,QJ hm k];rfl
    rw [<-h2];exact h1
  have:=hr m 0 (by omega);rw [exts,List.range_eq_range'];exact this
theorem abN {m k j:Nat} (hm:0 < m) {d:List Nat} (h:(exts m k)[j]? = some d):next m d=(exts m k)[j + 1]?:=by
 obtain ⟨hj,e⟩:=zE.1 h;have:=Ya hm k ((exts m k).take j) d ((exts m k).drop (j + 1)) (by rw [<-e,<-jE hj,List.take_append_drop]);rw [this,List.head?_drop];cases (exts m k)[j + 1]? <;> rfl
theorem abM {m:Nat}:∀ (d:List Nat) (i:Nat),next m (d.drop (i + 1))=none->∀ x,d[i]? = some x->next m (d.drop i)=if x + 1 < m then some ((x + 1) :: List.replicate (d.length - (i + 1)) 0) else none:=by
 intro d i h x hx;obtain ⟨hi,e⟩:=zE.1 hx;rw [jE hi,e,next,h,List.length_drop]
theorem abO {m:Nat}:∀ (pre d d':List Nat),next m d=some d'->next m (pre ++ d)=some (pre ++ d')
 | [],d,d',h=>h
 | x :: pre,d,d',h=>by rw [List.cons_append,next,abO pre d d' h];rfl
end A
def K.nat (d:List Nat):List Int:=d.map λ(x:Nat)=>(x:Int)
def aeN (w w':World) (l:ag) (e:Ending):Prop:=(∃ A n c,e=.returned (.slice A n c)/\Ints w' A n l/\n<=c)/\af w w'
theorem Dc {w:World} {base:Nat} {e:TypeId} {size n n' c:Nat} {A:aj} {xs:List Value} (h:w.ownsRow base e size (.slice A n' c) n xs):n'<=c:=by
 obtain ⟨hl,⟨h1,h2⟩ | ⟨g,cap,cur,h1,h2,h3,h4,h5⟩⟩:=h
 ·injection h1 with e1 e2 e3;omega
 ·injection h1 with e1 e2 e3;omega
theorem K.ai6 {d:List Nat} {k:Nat} {i:Int} (h:(K.nat d)[k]? = some i):∃ x:Nat,d[k]? = some x/\i=(x:Int):=by
 unfold K.nat at h;rw [dG] at h;cases hd:d[k]? with
 | none=>rw [hd] at h;cases h
 | some x =>
  rw [hd] at h;injection h with h;exact ⟨x,rfl,h.symm⟩
theorem A.alN {d:List Nat} {k x:Nat} (s:Nat) (h:d[k]? = some x):A.share (d.take (k + 1)) s 0=A.share (d.take k) s 0 ++ (if x=s then [(k:Int)] else []):=by
 obtain ⟨hk,e⟩:=zE.1 h;rw [sV hk,e,A.adV];have hl:(d.take k).length=k:=by rw [List.length_take];omega
 rw [hl,A.share,A.share,Int.zero_add]
theorem A.VG (s:Nat):∀ (d:List Nat) (i:Int),(A.share d s i).length<=d.length
 | [],_=>zG _
 | x :: d,i=>by
  rw [A.share,dQ];have:=A.VG s d (i + 1);split
  ·rw [dQ];omega
  ·omega
theorem adU (A0:aj) (n c:Nat) (d:List Nat) (s:Nat) (w:World) (hl:Ints w A0 n (K.nat d)) (hn:n<=1000) :
  ay 73 #[.slice A0 n c,.int .i64 (s:Int)] w λe w'=>aeN w w' (A.share d s 0) e:=by
 have bM:=zC (show n=d.length by have:=hl.1;rw [this];exact bu _);go_enter Tryz.func73,Tryz.ntmps73;go_wp2_with fail;go_loopw [5,6] (λv5 v6 wr=>∃ (k:Nat),v6=.int .i64 k/\k<=n/\wr.ownsRow w.heap.size 3 1 v5 (A.share (d.take k) s 0).length (intCells (A.share (d.take k) s 0))/\af w wr) (λ_ v6 _=>n - (intOf v6).toNat)
 case atStart=>exact ⟨0,rfl,by omega,kF _ _ _ _,ai⟩
 case round =>
  obtain ⟨k,rfl,hk,hown,hbr⟩:=hrel;by_cases hlt:k < n
  ·obtain ⟨jJ,i,rfl,hi,ci⟩:=(hl.below hbr).at_ hlt;obtain ⟨x,hx,rfl⟩:=K.ai6 hi;obtain ⟨k0,k1⟩:=zJ (a:=k) (b:=n) (by omega);have HT:=zC (A.alN s hx);have hpl:(A.share (d.take k) s 0).length<=1000:=by
    have:=A.VG s (d.take k) 0;rw [List.length_take] at this;omega
   clear hi hx;by_cases hxs:x=s;rotate_left
   ·have hb1:((x:Int) == (s:Int))=false:=by simp;omega
    have hb2:decide ((x:Int)=(s:Int))=false:=by simp;omega
    have hb3:(x == s)=false:=by simp;omega
    have hb4:decide (x=s)=false:=by simp;omega
    have HN:=zC (show A.share (d.take (k + 1)) s 0=A.share (d.take k) s 0 by rw [HT.out,if_neg hxs,List.append_nil]);clear hxs;go_wp2_with fail;go_roundw
    case rel=>exact ⟨k + 1,by go_num,by omega,by rw [HN.out];exact hown,hbr⟩
    case measure=>simp [intOf];omega
   ·have HN:=zC (show A.share (d.take (k + 1)) s 0=A.share (d.take k) s 0 ++ [(k:Int)] by rw [HT.out,if_pos hxs]);subst hxs;have ha:af wr (wr.alloc (.cells #[.int .i64 k] 3)):=ai.alloc (zG _) _;have hown2:=own_below hown ha;have hs2:w.heap.size<=(wr.alloc (.cells #[.int .i64 k] 3)).heap.size:=aN hbr.size ha.size;go_wp2_with (at_builtin;refine wU rfl (.tmp 19) (.tmp 21) rfl w.heap.size u5 (A.share (d.take k) x 0).length (A.share (d.take k) x 0) rfl hown2 wr.heap.size (k:Int) rfl (bU _ _ _ rfl) (by omega) hs2 ?_;intro tv' w6 hown6 hgrow6 gy);have b6:=dY (bel hbr ha) hgrow6 (λg e=>(hown.lt g e).1);have HS:=zC (show (A.share (d.take k) x 0).length + 1=(A.share (d.take (k + 1)) x 0).length by rw [HN.out,cZ];rfl);rw [<-HN.out,HS.out] at hown6;clear hgrow6 gy hown2 hown;go_roundw
    case rel=>exact ⟨k + 1,by go_num,by omega,hown6,b6⟩
    case measure=>simp [intOf];omega
  ·have HN:=zC (show d.take k=d from fD (by rw [<-bM.out];omega));rw [HN.out] at hown;obtain ⟨hd,hd2⟩:=zL (a:=k) (b:=n) (by omega);have hown':=hown;obtain ⟨A9,c9,rfl,hI⟩:=o_ hown rfl;have lV:=Dc hown';clear hlt;go_wp2_with fail;go_ret;exact ⟨⟨_,_,_,rfl,hI,lV⟩,hbr⟩
namespace K
def lG (f b:Nat):List Int:=(List.range' f (b - f)).map λ(i:Nat)=>(i:Int)
theorem OJ (f b:Nat):(lG f b).length=b - f:=by unfold lG;rw [bu,List.length_range']
theorem VO {f b i:Nat} (h:i < b - f):(lG f b)[i]? = some ((f + i:Nat):Int):=by
 unfold lG;rw [dG,List.getElem?_range' h];simp
theorem amr (f b i:Nat):(lG f b).drop i=lG (f + i) b:=by
 apply List.ext_getElem?;intro k;rw [List.getElem?_drop];by_cases h:i + k < b - f
 ·rw [VO h,VO (by omega)];congr 2;omega
 ·rw [lK (by rw [OJ];omega),lK (by rw [OJ];omega)]
theorem aeg (b:Nat):lG 0 b=iota b:=by
 unfold lG iota;rw [Nat.sub_zero,List.range_eq_range']
end K
theorem Qy {w w':World} {r:Option Nat} {p:Addr} {v:Value} (h:w.cell? p=some v) (hg:w.grownBy w' r) (hne:r ≠ some p.block):w'.cell? p=some v:=(lg (hg.block _ (cell_lt h) (λe=>hne e.symm))).trans h
theorem akp {w:World} {s n:Nat} {ad:Addr} {xs:List Value} (h:Rd w s (some ad) n xs) {k:Nat} (hk:k<=n):Rd w s (some (ad.add (k * s))) (n - k) (xs.drop (k * s)):=by
 refine ⟨by rw [List.length_drop,h.1,Nat.sub_mul],λh0=>?_⟩;obtain ⟨ad',e,hc⟩:=h.2 (by omega);injection e with e;subst e;refine ⟨_,rfl,λj u hu=>?_⟩;rw [List.getElem?_drop] at hu;rw [add_add];exact hc _ u hu
theorem alM (b:Nat) (hb6:b<=6):∀ (n f:Nat) (A0:aj) (c0:Nat) (w:World),n<=6->f<=b->Ints w A0 (b - f) (K.lG f b)->b - f<=c0->ay 79 #[.slice A0 (b - f) c0,.int .i64 n] w λe w'=>F5 w w' (A.dM b n f) e:=by
 intro n;induction n with
 | zero =>
  intro f A0 c0 w _ hf hI hc;have hd:decide ((0:Int)=0)=true:=rfl;obtain ⟨w1,hw1⟩:=zB (w.alloc (.cells #[] 3));obtain ⟨g,hg⟩:=zB w.heap.size;have b1:=aH hw1;have b2:af w1 (w1.alloc (.cells #[.slice (some ⟨g,0,none⟩) 0 0] 48)):=DX _ _;have hgw:w.heap.size<=g:=by rw [hg];exact zG _
  have hz1:w1.heap.size=g + 1:=by rw [hw1,hg];exact aF _ _
  have Ui:w.heap.size<=g + 1:=by rw [<-hz1];exact b1.size
  have hr:pG (w1.alloc (.cells #[.slice (some ⟨g,0,none⟩) 0 0] 48)) w1.heap.size 1 #[.slice (some ⟨g,0,none⟩) 0 0] [⟨some ⟨g,0,none⟩,0,0,[]⟩]:=⟨aA _ _,rfl,λk s hk=>by
   cases k with
   | zero=>simp at hk;subst hk;rfl
   | succ k=>simp at hk⟩
  rw [hz1] at hr;clear hz1;go_enter Tryz.func79,Tryz.ntmps79;go_upto_region 2 with fail;go_wp2_with fail;rw [<-hw1,<-hg];clear hw1 hg;go_ret;exact ⟨⟨_,1,1,[⟨some ⟨g,0,none⟩,0,0,[]⟩],rfl,hr.az λs hs=>by rw [dB] at hs;rw [hs];exact ⟨⟨rfl,rfl,λh=>absurd h (Nat.lt_irrefl 0)⟩,zG _,λe=>by cases e⟩,zG _,rfl,λad e=>(by injection e with e;rw [<-e];exact Ui),λs hs h0=>(by rw [dB] at hs;rw [hs] at h0;exact absurd h0 (by simp))⟩,bel b1 b2⟩
 | succ n ih =>
  intro f A0 c0 w hn hf hI hc0;have hd:decide (((n + 1:Nat):Int)=0)=false:=by simp;omega
  have hd2:(((n + 1:Nat):Int) == 0)=false:=by simp;omega
  obtain ⟨N,tX⟩:=zB (n + 1);rw [<-tX] at hd hd2 ⊢;have kN:IntKind.i64.wrap ((N:Int) - 1)=(n:Int):=by rw [dh _ (by omega)];omega
  have HC:=zC (show A.dM b N f=(List.range' f (b - f)).flatMap λi=>(A.dM b n (i + 1)).map ((i:Int) :: ·) by rw [tX];rfl);have hN0:((N:Int)=0)=False:=by simp;omega
  obtain ⟨M,hM⟩:=zB (b - f);rw [<-hM] at hI hc0 HC ⊢;have xu:M<=6:=by omega
  have HM:=zC hM;clear tX hM;go_enter Tryz.func79,Tryz.ntmps79;go_wp2_with fail;clear hd hd2 hN0;go_loopw [5,6] (λv5 v6 wr=>∃ (i:Nat) (L:List Sh),v6=.int .i64 i/\i<=M/\wr.ownsRow w.heap.size 48 1 v5 L.length (L.map Sh.val)/\iF wr v5 L/\kY w.heap.size L/\af w wr/\L.length<=64 * i/\Hid (L.map Sh.l=(List.range' f i).flatMap λi=>(A.dM b n (i + 1)).map ((i:Int) :: ·))) (λ_ v6 _=>M - (intOf v6).toNat)
  case atStart=>exact ⟨0,[],rfl,aW _,kF _ _ _ _,λs hs=>(by cases hs),λs hs=>(by cases hs),ai,aW _,rfl⟩
  case round =>
   obtain ⟨i,L,rfl,hi,hown,hro,hnw,hbr,hll,hcl⟩:=hrel;by_cases hlt:i < M
   ·obtain ⟨i0,i1⟩:=zJ (a:=i) (b:=M) (by omega);have ki:IntKind.i64.wrap ((i:Int) + 1)=(i:Int) + 1:=dh _ (by omega);have ki3:(0:Int)<=(i:Int) + 1:=by omega
    have ki4:(i:Int) + 1<=(M:Int):=by omega
    obtain ⟨hd,hd2⟩:=zK (a:=i) (b:=M) (by omega);have Zo:=hI.below hbr;obtain ⟨Be,Su⟩:∃ ad,A0=some ad:=by
     obtain ⟨ad,e,-⟩:=hI.2.2 (by omega);exact ⟨ad,e⟩
    obtain ⟨F,hF⟩:=zB (f + i);have hFM:F + 1<=b:=by have:=HM.out;omega
    have Ho:b - (F + 1)=M - (i + 1):=by have:=HM.out;omega
    obtain ⟨D,hD⟩:=zB (A.dM b n (F + 1));have hDl:D.length<=64:=by rw [hD];exact A.DZ hb6 (by omega) (by omega)
    have RE:Ints wr (some (Be.add (i + 1))) (M - (i + 1)) (K.lG (F + 1) b):=by
     have h:=Zo.2;rw [Su] at h;have h:=akp h (k:=i + 1) (by omega);rw [Nat.mul_one] at h;refine ⟨by rw [K.OJ,Ho],?_⟩;have e:intCells (K.lG (F + 1) b)=(intCells (K.lG f b)).drop (i + 1):=by
      unfold intCells;rw [<-List.map_drop,K.amr,hF,Nat.add_assoc]
     rw [e];exact h
    have CS:∀ (A1:aj) (c1:Nat),Ints wr A1 (M - (i + 1)) (K.lG (F + 1) b)->M - (i + 1)<=c1->ay 79 #[.slice A1 (M - (i + 1)) c1,.int .i64 n] wr λe w'=>F5 wr w' D e:=λA1 c1 h1 h2=>by
     have h9:=ih (F + 1) A1 c1 wr (by omega) hFM (by rw [Ho];exact h1) (by rw [Ho];exact h2);rw [Ho,<-hD] at h9;exact h9
    have uJ:=zC CS;have HD:=zC hD;have HF:=zC hF;have wJ:=zC RE;have uI:=zC Su;clear hD hF Su RE CS Ho Zo;go_upto_region 7 with fail;rw [uI.out];go_cut [7] from 19 to 25 (λv7 wc=>∃ E m c l,v7=.slice E m c/\gZ wc E m l/\m<=c/\Hid (l.map Sh.l=D)/\(∀ ad,E=some ad->wr.heap.size<=ad.block)/\kY wr.heap.size l/\af wr wc)
    case first =>
     by_cases hc:c0=i + 1
     ·have hc':(c0=i + 1)=True:=eq_true hc;have hm0:M - (i + 1)=0:=by omega
      have C9:=uJ.out (some Be) (c0 - (i + 1)) (by
       have h9:=wJ.out;rw [hm0] at h9 ⊢;exact ⟨h9.1,h9.2.1,λh=>absurd h (Nat.lt_irrefl 0)⟩) (by omega)
      clear hc hm0;go_wp2_with fail;refine C9.mono ?_;rintro e w2 ⟨⟨E,m,c,l,rfl,hSl,hmc,iJ,jy,hln⟩,b2⟩;have Az:=zC iJ;clear iJ C9;go_wp2_with fail;go_meet;exact ⟨E,m,c,l,rfl,hSl,hmc,Az.out,jy,hln,b2⟩
     ·have hc':(c0=i + 1)=False:=eq_false hc;have hadd:Be.add (i + 1)=⟨Be.block,Be.off + (i + 1),none⟩:=by unfold Addr.add;simp
      have C9:=uJ.out (some ⟨Be.block,Be.off + (i + 1),none⟩) (c0 - (i + 1)) (by rw [<-hadd];exact wJ.out) (by omega);clear hc hadd;go_wp2_with fail;refine C9.mono ?_;rintro e w2 ⟨⟨E,m,c,l,rfl,hSl,hmc,iJ,jy,hln⟩,b2⟩;have Az:=zC iJ;clear iJ C9;go_wp2_with fail;go_meet;exact ⟨E,m,c,l,rfl,hSl,hmc,Az.out,jy,hln,b2⟩
    case rest =>
    obtain ⟨E,m,c,l,rfl,hSl,hmc,iJ,jy,hln,b2⟩:=hcut;rw [<-uI.out];obtain ⟨w2,hw2⟩:=zB wc;rw [<-hw2] at hSl b2;rw [<-hw2];clear hw2;have hml:m<=64:=by rw [hSl.1.1,<-bu (f:=Sh.l),iJ.out];exact hDl
    have dP:∀ s ∈ l,s.n<=6:=λs hs=>by
     rw [(hSl.2 s hs).1.1];have h9:s.l ∈ A.dM b n (F + 1):=by rw [<-HD.out,<-iJ.out];exact List.mem_map_of_mem hs
     have:=(A.qL.1 h9).1;omega
    have FE:0 < m->∀ ad,E=some ad->wr.heap.size<=ad.block/\ad.block < w2.heap.size:=λh0 ad e=>by
     obtain ⟨ad',s,e',-,-,hc⟩:=hSl.at_ h0;rw [e] at e';injection e' with e';exact ⟨jy ad e,by rw [e'];exact cell_lt hc⟩
    have FL:∀ s ∈ l,0 < s.n->∀ ad,s.A=some ad->wr.heap.size<=ad.block/\ad.block < w2.heap.size:=λs hs h0 ad e=>⟨hln s hs h0 ad e,(hSl.2 s hs).1.nD h0 e⟩;have hob:∀ g,u5.ownBlock=some g->g < wr.heap.size:=λg e=>(gz hown g e).2;have hown2:=own_below hown b2;have Cm:=hro.below b2;have hb2:=bel hbr b2;have hwr2:=b2.size;have Zf:((f + i:Nat):Int)=(F:Int):=by rw [HF.out]
    obtain ⟨z,hz⟩:∃ z:Int,z=(F:Int):=⟨_,rfl⟩;have HZ:=zC hz;have HIZ:=zC (show (K.lG f b)[i]? = some z by rw [K.VO (by have:=HM.out;omega),Zf,hz]);clear uJ wJ hown hro hbr b2 jy hln Zf hz hd hd2;go_wp2_with fail;obtain ⟨W2,hW2⟩:=zB w2.heap.size;obtain ⟨WQ,zk⟩:=zB wr.heap.size;rw [<-hW2,<-zk] at FE FL hwr2;rw [<-zk] at hob;go_loopw [5,8] (λv5 v8 wi=>∃ (j:Nat) (L':List Sh),v8=.int .i64 j/\j<=m/\wi.ownsRow w.heap.size 48 1 v5 L'.length (L'.map Sh.val)/\iF wi v5 L'/\kY w.heap.size L'/\af w wi/\W2<=wi.heap.size/\Hid (L'.length=L.length + j)/\gZ wi E m l/\(∀ g,v5.ownBlock=some g->g < WQ\/W2<=g)/\Hid (L'.map Sh.l=L.map Sh.l ++ (l.take j).map λs=>z :: s.l)) (λ_ v8 _=>m - (intOf v8).toNat)
    case atStart=>exact ⟨0,L,rfl,aW _,hown2,Cm,hnw,hb2,Nat.le_of_eq hW2,rfl,hSl,λg e=>.inl (hob g e),by show _=_;rw [List.take_zero];simp⟩
    case round =>
     clear hown2 Cm hW2;obtain ⟨j,L',rfl,hj,rJ,zO,nR,qE,ZO,ny,zh,qG,hcI⟩:=hrel;by_cases hjm:j < m
     ·obtain ⟨gK,s,hEA,hg,⟨hsI,hsc,hs0⟩,hc⟩:=zh.at_ hjm;obtain ⟨j0,j1⟩:=zJ (a:=j) (b:=m) (by omega);obtain ⟨jd,xK⟩:=zK (a:=j) (b:=m) (by omega);have hsm:=zD hg;have h6:=dP s hsm;have HG:=zC hg;have DK:=zC hsm;obtain ⟨Qg,z',QU,hz',KO⟩:=hI.at_ (show i < M from hlt);have cz:=(qE.cell (cell_lt KO)).trans KO;have NL:u5.ownBlock ≠ some (Qg.add i).block:=λe=>by
       have h1:=(gz rJ _ e).1;have h2:=cell_lt KO;omega
      have NE:u5.ownBlock ≠ some (gK.add j).block:=λe=>by
       rw [add_block] at e;have h1:=qG _ e;have h2:=FE (by omega) gK hEA;omega
      rw [HIZ.out] at hz';injection hz' with hz';subst hz';have TL:L'.length<=1000000:=by have:=ny.out;omega
      have Sj:af wr wr:=ai;have Fd:af wr wr.drew:=Sj.drew;have Fz:af wr (wr.alloc (.cells #[.int .i64 z] 3)):=DX _ _;have hmk:∀ w',af wr w'->(λw':World=>w'.cell? (Qg.add i)=some (.int .i64 z)/\w'.cell? (gK.add j)=some (.slice s.A s.n s.c)) w':=λw' h=>⟨(h.cell (cell_lt cz)).trans cz,(h.cell (cell_lt hc)).trans hc⟩;have aC:=zC hmk;have S0:=aC.out _ Sj;have aQ:=aC.out _ Fd;have AQ:=aC.out _ Fz;have F6:=aC.out _ Fz.drew;obtain ⟨i3,hi3,ha0,ha1,ha2⟩:=info_parts Tryz.info3;obtain ⟨i48,TD,hb0,hb1,hb2⟩:=info_parts Tryz.info48;have hone:∀ u ∈ intCells s.l,u.oneCell'=true:=qI _;have hm63:1 + s.n<=maxLen:=by simp only [maxLen];omega
      have Cc:(1 + s.n) * 8<=140737488355328:=by omega
      have hn63:L'.length + 1<=maxLen:=by simp only [maxLen];omega
      have hn47:(L'.length + 1) * 24<=140737488355328:=by omega
      have Cz:∀ g,(Value.slice (some ⟨wr.heap.size,0,none⟩) 1 1).ownBlock=some g->wr.heap.size<=g:=λg e=>by injection e with e;rw [<-e];exact zG _
      have Oa:(wr.alloc (.cells #[.int .i64 z] 3)).drew.ownsRow wr.heap.size 3 1 (.slice (some ⟨wr.heap.size,0,none⟩) 1 1) 1 [.int .i64 z]:=⟨rfl,.inr ⟨wr.heap.size,1,_,rfl,zG _,aA wr (.cells #[.int .i64 z] 3),zG _,by simp [maxLen],rfl,rfl⟩⟩;have Ra:=hsI.2.below Fz.drew;have Oz:True:=trivial;have Uk:=qE.size;rw [hEA,QU];have uK:=zC hEA;have am4:=zC QU;clear hg h6 hsm hmk hEA QU cz KO hc;go_upto_region 11 with fail
      go_region_held3 (λw':World=>w'.cell? (Qg.add i)=some (.int .i64 z)/\w'.cell? (gK.add j)=some (.slice s.A s.n s.c))
       (with_reducible first | exact S7 | exact AX | exact S6 | exact F6 | exact AQ | exact aQ | exact S0 | fail)
       (first
        | (have h0:=Oz;clear Oz;apply x_ (hgd:=rfl) (s:=.tmp 37) (x:=.tmp 41) (t:=48) (ho:=rfl) (base:=wr.heap.size) (e:=3) (i:=i3) (z:=(.int .i64 0)) (size:=1) (bytes:=8) (ht:=Tryz.underlying48) (hi:=hi3) (hz:=ha0) (hsize:=ha1) (hby:=ha2) (hzs:=rfl) (hsz:=by decide) (v:=.slice (some ⟨_,0,none⟩) 1 1) (n:=1) (xs:=[.int .i64 z]) (hs:=rfl) (A:=s.A) (m:=s.n) (c:=s.c) (news:=intCells s.l) (hown:=Oa) (hr:=Ra) (hbase:=Fz.drew.size) (hx:=rfl) (h1:=hone) (h63:=hm63) (hbytes:=Cc);intro v6 w6 hown6 h_ gy;obtain ⟨B6,c6,rfl,BN,Bv⟩:=fP hown6;have dR:af wr w6:=dY Fz.drew h_ Cz;have S6:=aC.out _ dR;have qR:af w6 (w6.alloc (.cells #[.slice B6 (1 + s.n) c6] 48)):=DX _ _;have pU:=bel dR qR;have AX:=aC.out _ pU;have hcap6:=Dc hown6;have O6:=own_below rJ pU;have Z6:=aN Uk pU.size;have R6:Rd (w6.alloc (.cells #[.slice B6 (1 + s.n) c6] 48)) 1 (some ⟨w6.heap.size,0,none⟩) 1 [.slice B6 (1 + s.n) c6]:=Rd.of_block (aA w6 _) 1 1 rfl;have O1:∀ u ∈ [Value.slice B6 (1 + s.n) c6],u.oneCell'=true:=(λu hu=>by rw [show u=.slice B6 (1 + s.n) c6 from dB.1 hu];rfl))
        | (have h9:=O6;clear O6;apply x_ (hgd:=rfl) (s:=.tmp 32) (x:=.tmp 43) (t:=97) (ho:=rfl) (base:=w.heap.size) (e:=48) (i:=i48) (z:=(.slice none 0 0)) (size:=1) (bytes:=24) (ht:=Tryz.underlying97) (hi:=TD) (hz:=hb0) (hsize:=hb1) (hby:=hb2) (hzs:=rfl) (hsz:=by decide) (v:=u5) (n:=L'.length) (xs:=L'.map Sh.val) (hs:=rfl) (A:=some ⟨w6.heap.size,0,none⟩) (m:=1) (c:=1) (news:=[.slice B6 (1 + s.n) c6]) (hown:=h9) (hr:=R6) (h1:=O1) (hbase:=Z6) (hx:=rfl) (h63:=hn63) (hbytes:=hn47);intro v7 w7 jO iO qC;have S7:=And.intro (Qy AX.1 iO NL) (Qy AX.2 iO NE))
        | fail)
      have hBl:∀ ad,B6=some ad->wr.heap.size<=ad.block/\ad.block < w6.heap.size:=λad e=>Bv ad.block (by rw [e];rfl);have h6l:(w6.alloc (.cells #[.slice B6 (1 + s.n) c6] 48)).heap.size=w6.heap.size + 1:=aF _ _;have dS:Ints w6 B6 (1 + s.n) (z :: s.l):=⟨by rw [dQ,<-hsI.1];omega,BN⟩;have ahv:=iO.size;have h7:=gz rJ;have h6z:=dR.size;have hBn:B6=none->(1 + s.n)=0/\c6=0:=λe=>by
       obtain ⟨ad,e2,-⟩:=BN.2 (by omega);rw [e] at e2;cases e2
      have O0:=zC (show (L' ++ [(⟨B6,1 + s.n,c6,z :: s.l⟩:Sh)]).map Sh.l=L.map Sh.l ++ (l.take (j + 1)).map λs=>z :: s.l by
       rw [eG,hcI.out,List.take_add_one,HG.out];simp)
      have PR:=zC (show iF w7 v7 (L' ++ [(⟨B6,1 + s.n,c6,z :: s.l⟩:Sh)]) from by
       refine ((zO.below pU).grow iO qC).snoc ⟨(dS.below qR).grow iO λ_ ad e e2=>?_,hcap6,hBn⟩ (λ_ ad e e2=>?_)
       ·have h1:=(hBl ad e).1;have h2:=(h7 _ e2.symm).2;omega
       ·have h1:=hBl ad e;rcases qC with e3 | e3
        ·rw [e3] at e2;have h2:=(h7 _ e2).2;omega
        ·rw [e3] at e2;injection e2 with e2;omega)
      have FW:=zC (show gZ w7 E m l from (zh.below pU).grown iO (λh0 ad e e2=>by
        have a1:=FE h0 ad e;have a2:=qG _ e2.symm;omega) (λt ht h0 ad e e2=>by
        have a1:=FL t ht h0 ad e;have a2:=qG _ e2.symm;omega))
      have hb7:af w w7:=dY (bel qE pU) iO (λg e=>(h7 g e).1);have TT:∀ g,v7.ownBlock=some g->g < WQ\/W2<=g:=λg e=>by
       rcases qC with e3 | e3
       ·rw [e3] at e;exact qG g e
       ·rw [e3] at e;injection e with e;omega
      have TQ:=nR.snoc (y:=⟨B6,1 + s.n,c6,z :: s.l⟩) (λ_ ad e=>by
       have h1:=(hBl ad e).1;omega)
      have Ik:w7.ownsRow w.heap.size 48 1 v7 (L' ++ [(⟨B6,1 + s.n,c6,z :: s.l⟩:Sh)]).length ((L' ++ [(⟨B6,1 + s.n,c6,z :: s.l⟩:Sh)]).map Sh.val):=by
       rw [cZ,eG];exact jO
      have qi:=zC (show (L' ++ [(⟨B6,1 + s.n,c6,z :: s.l⟩:Sh)]).length=L.length + (j + 1) by rw [cZ,ny.out];rfl);have qB:W2<=w7.heap.size:=by omega
      clear S0 aQ AQ F6 S6 AX S7 hone hm63 Cc hn63 hn47 Cz Oa Ra Fd Fz Sj qR pU hcap6 Z6 jO iO qC BN Bv dS hBn h9 h0;go_wp2_with fail;go_roundw
      case rel=>(go_light;exact ⟨j + 1,_,by go_num,hjm,Ik,PR.out,TQ,hb7,qB,qi.out,by first | exact FW.out | (rw [<-uK.out];exact FW.out),TT,O0.out⟩)
      case measure=>(go_light;simp [intOf];omega)
     ·obtain ⟨jd,xK⟩:=zL (a:=j) (b:=m) (by omega);have HJ:=zC (show j=m by omega);have Rl:L'.length<=64 * (i + 1):=by have:=ny.out;omega
      have O7:=zC (show L'.map Sh.l=(List.range' f (i + 1)).flatMap λi=>(A.dM b n (i + 1)).map ((i:Int) :: ·) by
       have hm:m=l.length:=hSl.1.1;rw [hcI.out,HJ.out,hm,List.take_length,A.NY,List.flatMap_append,<-hcl.out,List.flatMap_singleton,<-HF.out,<-HD.out,<-iJ.out,List.map_map,HZ.out];rfl)
      go_wp2_with fail;go_roundw
      case rel=>(go_light;exact ⟨i + 1,L',by go_num,hlt,rJ,zO,nR,qE,Rl,O7.out⟩)
      case measure=>(go_light;simp [intOf];omega)
   ·obtain ⟨hd,hd2⟩:=zL (a:=i) (b:=M) (by omega);have Pg:=zC (show i=M by omega);go_wp2_with fail;go_ret;obtain ⟨E,c,rfl,hS,hc,hE⟩:=Df hown rfl hro;refine ⟨⟨E,_,c,L,rfl,hS,hc,?_,hE,hnw⟩,hbr⟩;rw [hcl.out,HC.out,Pg.out]
theorem alJ (b:Nat) (hb6:b<=6):∀ (n f:Nat) (w:World),n<=6->f<=b->ay 102 #[.int .i64 (f:Int),.int .i64 (b:Int),.int .i64 (n:Int)] w λe w'=>F5 w w' (A.dM b n f) e:=by
 intro n;induction n with
 | zero =>
  intro f w _ hf;have hd:decide ((0:Int)=0)=true:=rfl;obtain ⟨w1,hw1⟩:=zB (w.alloc (.cells #[] 3));obtain ⟨g,hg⟩:=zB w.heap.size;have b1:=aH hw1;have b2:af w1 (w1.alloc (.cells #[.slice (some ⟨g,0,none⟩) 0 0] 48)):=DX _ _;have hgw:w.heap.size<=g:=by rw [hg];exact zG _
  have hz1:w1.heap.size=g + 1:=by rw [hw1,hg];exact aF _ _
  have Ui:w.heap.size<=g + 1:=by rw [<-hz1];exact b1.size
  have hr:pG (w1.alloc (.cells #[.slice (some ⟨g,0,none⟩) 0 0] 48)) w1.heap.size 1 #[.slice (some ⟨g,0,none⟩) 0 0] [⟨some ⟨g,0,none⟩,0,0,[]⟩]:=⟨aA _ _,rfl,λk s hk=>by
   cases k with
   | zero=>simp at hk;subst hk;rfl
   | succ k=>simp at hk⟩
  rw [hz1] at hr;clear hz1;go_enter Tryz.func102,Tryz.ntmps102;go_upto_region 2 with fail;go_wp2_with fail;rw [<-hw1,<-hg];clear hw1 hg;go_ret;exact ⟨⟨_,1,1,[⟨some ⟨g,0,none⟩,0,0,[]⟩],rfl,hr.az λs hs=>by rw [dB] at hs;rw [hs];exact ⟨⟨rfl,rfl,λh=>absurd h (Nat.lt_irrefl 0)⟩,zG _,λe=>by cases e⟩,zG _,rfl,λad e=>(by injection e with e;rw [<-e];exact Ui),λs hs h0=>(by rw [dB] at hs;rw [hs] at h0;exact absurd h0 (by simp))⟩,bel b1 b2⟩
 | succ n ih =>
  intro f w hn hf;have hd:decide (((n + 1:Nat):Int)=0)=false:=by simp;omega
  have hd2:(((n + 1:Nat):Int) == 0)=false:=by simp;omega
  obtain ⟨N,tX⟩:=zB (n + 1);rw [<-tX] at hd hd2 ⊢;have kN:IntKind.i64.wrap ((N:Int) - 1)=(n:Int):=by rw [dh _ (by omega)];omega
  have HC:=zC (show A.dM b N f=(List.range' f (b - f)).flatMap λi=>(A.dM b n (i + 1)).map ((i:Int) :: ·) by rw [tX];rfl);have hN0:((N:Int)=0)=False:=by simp;omega
  clear tX;obtain ⟨w1,hw1⟩:=zB (w.alloc (.cells #[] 48));obtain ⟨g,hg⟩:=zB w.heap.size;have b1:=aH hw1;have hL1:w1.heap[g]? = some (.cells #[] 48 (0,0)):=by rw [hw1,hg];exact aA _ _
  have Lu:w1.ownsRow w.heap.size 48 1 (.slice (some ⟨g,0,none⟩) 0 0) 0 []:=uy hL1 (by rw [hg];exact zG _);go_enter Tryz.func102,Tryz.ntmps102;go_upto_region 4 with fail;rw [<-hw1,<-hg];clear hw1 hg hL1;go_wp2_with fail;clear hd hd2 hN0;go_loopw [7,8] (λv7 v8 wr=>∃ (F:Nat) (L:List Sh),v8=.int .i64 (F:Int)/\f<=F/\F<=b/\wr.ownsRow w.heap.size 48 1 v7 L.length (L.map Sh.val)/\iF wr v7 L/\kY w.heap.size L/\af w wr/\L.length<=64 * (F - f)/\Hid (L.map Sh.l=(List.range' f (F - f)).flatMap λi=>(A.dM b n (i + 1)).map ((i:Int) :: ·))) (λ_ v8 _=>b - (intOf v8).toNat)
  case atStart=>exact ⟨f,[],rfl,zG _,hf,Lu,λs hs=>(by cases hs),λs hs=>(by cases hs),b1,aW _,by show _=_;rw [Nat.sub_self];rfl⟩
  case round =>
   obtain ⟨F,L,rfl,hfF,hi,hown,hro,hnw,hbr,hll,hcl⟩:=hrel;by_cases hlt:F < b
   ·obtain ⟨i0,i1⟩:=zJ (a:=F) (b:=b) (by omega);have ki:IntKind.i64.wrap ((F:Int) + 1)=(F:Int) + 1:=dh _ (by omega);obtain ⟨hd,hd2⟩:=zK (a:=F) (b:=b) (by omega);obtain ⟨D,hD⟩:=zB (A.dM b n (F + 1));have hDl:D.length<=64:=by rw [hD];exact A.DZ hb6 (by omega) (by omega)
    have CS:ay 102 #[.int .i64 ((F:Int) + 1),.int .i64 (b:Int),.int .i64 (n:Int)] wr λe w'=>F5 wr w' D e:=by
     have h9:=ih (F + 1) wr (by omega) hlt;rw [<-hD,show ((F + 1:Nat):Int)=(F:Int) + 1 by omega] at h9;exact h9
    have HD:=zC hD;clear hD;go_wp2_with fail;refine CS.mono ?_;rintro e w2 ⟨⟨E,m,c,l,rfl,hSl,hmc,aap,jy,hln⟩,b2⟩;have iJ:=zC aap;clear aap CS;have hml:m<=64:=by rw [hSl.1.1,<-bu (f:=Sh.l),iJ.out];exact hDl
    have dP:∀ s ∈ l,s.n<=6:=λs hs=>by
     rw [(hSl.2 s hs).1.1];have h9:s.l ∈ A.dM b n (F + 1):=by rw [<-HD.out,<-iJ.out];exact List.mem_map_of_mem hs
     have:=(A.qL.1 h9).1;omega
    have FE:0 < m->∀ ad,E=some ad->wr.heap.size<=ad.block/\ad.block < w2.heap.size:=λh0 ad e=>by
     obtain ⟨ad',s,e',-,-,hc⟩:=hSl.at_ h0;rw [e] at e';injection e' with e';exact ⟨jy ad e,by rw [e'];exact cell_lt hc⟩
    have FL:∀ s ∈ l,0 < s.n->∀ ad,s.A=some ad->wr.heap.size<=ad.block/\ad.block < w2.heap.size:=λs hs h0 ad e=>⟨hln s hs h0 ad e,(hSl.2 s hs).1.nD h0 e⟩;have hob:∀ g,u7.ownBlock=some g->g < wr.heap.size:=λg e=>(gz hown g e).2;have hown2:=own_below hown b2;have Cm:=hro.below b2;have hb2:=bel hbr b2;have hwr2:=b2.size;clear hown hro hbr b2 jy hln hd hd2;go_wp2_with fail;obtain ⟨W2,hW2⟩:=zB w2.heap.size;obtain ⟨WQ,zk⟩:=zB wr.heap.size;rw [<-hW2,<-zk] at FE FL hwr2;rw [<-zk] at hob;go_loopw [7,10] (λv7 v10 wi=>∃ (j:Nat) (L':List Sh),v10=.int .i64 j/\j<=m/\wi.ownsRow w.heap.size 48 1 v7 L'.length (L'.map Sh.val)/\iF wi v7 L'/\kY w.heap.size L'/\af w wi/\W2<=wi.heap.size/\Hid (L'.length=L.length + j)/\gZ wi E m l/\(∀ g,v7.ownBlock=some g->g < WQ\/W2<=g)/\Hid (L'.map Sh.l=L.map Sh.l ++ (l.take j).map λs=>(F:Int) :: s.l)) (λ_ v10 _=>m - (intOf v10).toNat)
    case atStart=>exact ⟨0,L,rfl,aW _,hown2,Cm,hnw,hb2,Nat.le_of_eq hW2,rfl,hSl,λg e=>.inl (hob g e),by show _=_;rw [List.take_zero];simp⟩
    case round =>
     clear hown2 Cm hW2;obtain ⟨j,L',rfl,hj,rJ,zO,nR,qE,ZO,ny,zh,qG,hcI⟩:=hrel;by_cases hjm:j < m
     ·obtain ⟨gK,s,hEA,hg,⟨hsI,hsc,hs0⟩,hc⟩:=zh.at_ hjm;obtain ⟨j0,j1⟩:=zJ (a:=j) (b:=m) (by omega);obtain ⟨jd,xK⟩:=zK (a:=j) (b:=m) (by omega);have hsm:=zD hg;have h6:=dP s hsm;have HG:=zC hg;have DK:=zC hsm;have NE:u7.ownBlock ≠ some (gK.add j).block:=λe=>by
       rw [add_block] at e;have h1:=qG _ e;have h2:=FE (by omega) gK hEA;omega
      have TL:L'.length<=1000000:=by have:=ny.out;omega
      have Fz:af wr (wr.alloc (.cells #[.int .i64 (F:Int)] 3)):=DX _ _;have AQ:=(Fz.cell (cell_lt hc)).trans hc;obtain ⟨i3,hi3,ha0,ha1,ha2⟩:=info_parts Tryz.info3;obtain ⟨i48,TD,hb0,hb1,hb2⟩:=info_parts Tryz.info48;have hone:∀ u ∈ intCells s.l,u.oneCell'=true:=qI _;have hm63:1 + s.n<=maxLen:=by simp only [maxLen];omega
      have Cc:(1 + s.n) * 8<=140737488355328:=by omega
      have hn63:L'.length + 1<=maxLen:=by simp only [maxLen];omega
      have hn47:(L'.length + 1) * 24<=140737488355328:=by omega
      have Cz:∀ g,(Value.slice (some ⟨wr.heap.size,0,none⟩) 1 1).ownBlock=some g->wr.heap.size<=g:=λg e=>by injection e with e;rw [<-e];exact zG _
      have Oa:(wr.alloc (.cells #[.int .i64 (F:Int)] 3)).ownsRow wr.heap.size 3 1 (.slice (some ⟨wr.heap.size,0,none⟩) 1 1) 1 [.int .i64 (F:Int)]:=⟨rfl,.inr ⟨wr.heap.size,1,_,rfl,zG _,aA wr (.cells #[.int .i64 (F:Int)] 3),zG _,by simp [maxLen],rfl,rfl⟩⟩;have Ra:=hsI.2.below Fz;have Oz:True:=trivial;have Uk:=qE.size;rw [hEA];have uK:=zC hEA;clear hg h6 hsm hEA hc;go_upto_region 11 with fail;go_wp2_with (first
       | (at_builtin;have h0:=Oz;clear Oz;refine nU rfl _ _ 48 rfl wr.heap.size 3 i3 (.int .i64 0) 1 8 Tryz.underlying48 hi3 ha0 ha1 ha2 rfl (by decide) _ 1 [.int .i64 (F:Int)] rfl Oa s.A s.n s.c (intCells s.l) rfl Ra hone hm63 Cc Fz.size ?_;intro v6 w6 hown6 h_ gy;obtain ⟨B6,c6,rfl,BN,Bv⟩:=fP hown6;have dR:af wr w6:=dY Fz h_ Cz;have qR:af w6 (w6.alloc (.cells #[.slice B6 (1 + s.n) c6] 48)):=DX _ _;have pU:=bel dR qR;have hcap6:=Dc hown6;have O6:=own_below rJ pU;have Z6:=aN Uk pU.size;have R6:Rd (w6.alloc (.cells #[.slice B6 (1 + s.n) c6] 48)) 1 (some ⟨w6.heap.size,0,none⟩) 1 [.slice B6 (1 + s.n) c6]:=Rd.of_block (aA w6 _) 1 1 rfl;have O1:∀ u ∈ [Value.slice B6 (1 + s.n) c6],u.oneCell'=true:=(λu hu=>by rw [show u=.slice B6 (1 + s.n) c6 from dB.1 hu];rfl))
       | (at_builtin;have h9:=O6;clear O6;refine nU rfl _ _ 97 rfl w.heap.size 48 i48 (.slice none 0 0) 1 24 Tryz.underlying97 TD hb0 hb1 hb2 rfl (by decide) _ L'.length (L'.map Sh.val) rfl h9 (some ⟨w6.heap.size,0,none⟩) 1 1 [.slice B6 (1 + s.n) c6] rfl R6 O1 hn63 hn47 Z6 ?_;intro v7 w7 jO iO qC)
       | fail)
      have hBl:∀ ad,B6=some ad->wr.heap.size<=ad.block/\ad.block < w6.heap.size:=λad e=>Bv ad.block (by rw [e];rfl);have h6l:(w6.alloc (.cells #[.slice B6 (1 + s.n) c6] 48)).heap.size=w6.heap.size + 1:=aF _ _;have dS:Ints w6 B6 (1 + s.n) ((F:Int) :: s.l):=⟨by rw [dQ,<-hsI.1];omega,BN⟩;have ahv:=iO.size;have h7:=gz rJ;have h6z:=dR.size;have hBn:B6=none->(1 + s.n)=0/\c6=0:=λe=>by
       obtain ⟨ad,e2,-⟩:=BN.2 (by omega);rw [e] at e2;cases e2
      have O0:=zC (show (L' ++ [(⟨B6,1 + s.n,c6,(F:Int) :: s.l⟩:Sh)]).map Sh.l=L.map Sh.l ++ (l.take (j + 1)).map λs=>(F:Int) :: s.l by
       rw [eG,hcI.out,List.take_add_one,HG.out];simp)
      have PR:=zC (show iF w7 v7 (L' ++ [(⟨B6,1 + s.n,c6,(F:Int) :: s.l⟩:Sh)]) from by
       refine ((zO.below pU).grow iO qC).snoc ⟨(dS.below qR).grow iO λ_ ad e e2=>?_,hcap6,hBn⟩ (λ_ ad e e2=>?_)
       ·have h1:=(hBl ad e).1;have h2:=(h7 _ e2.symm).2;omega
       ·have h1:=hBl ad e;rcases qC with e3 | e3
        ·rw [e3] at e2;have h2:=(h7 _ e2).2;omega
        ·rw [e3] at e2;injection e2 with e2;omega)
      have FW:=zC (show gZ w7 E m l from (zh.below pU).grown iO (λh0 ad e e2=>by
        have a1:=FE h0 ad e;have a2:=qG _ e2.symm;omega) (λt ht h0 ad e e2=>by
        have a1:=FL t ht h0 ad e;have a2:=qG _ e2.symm;omega))
      have hb7:af w w7:=dY (bel qE pU) iO (λg e=>(h7 g e).1);have TT:∀ g,v7.ownBlock=some g->g < WQ\/W2<=g:=λg e=>by
       rcases qC with e3 | e3
       ·rw [e3] at e;exact qG g e
       ·rw [e3] at e;injection e with e;omega
      have TQ:=nR.snoc (y:=⟨B6,1 + s.n,c6,(F:Int) :: s.l⟩) (λ_ ad e=>by
       have h1:=(hBl ad e).1;omega)
      have Ik:w7.ownsRow w.heap.size 48 1 v7 (L' ++ [(⟨B6,1 + s.n,c6,(F:Int) :: s.l⟩:Sh)]).length ((L' ++ [(⟨B6,1 + s.n,c6,(F:Int) :: s.l⟩:Sh)]).map Sh.val):=by
       rw [cZ,eG];exact jO
      have qi:=zC (show (L' ++ [(⟨B6,1 + s.n,c6,(F:Int) :: s.l⟩:Sh)]).length=L.length + (j + 1) by rw [cZ,ny.out];rfl);have qB:W2<=w7.heap.size:=by omega
      clear AQ hone hm63 Cc hn63 hn47 Cz Oa Ra Fz qR pU hcap6 Z6 jO iO qC BN Bv dS hBn h9 h0;go_wp2_with fail;go_roundw
      case rel=>(go_light;exact ⟨j + 1,_,by go_num,hjm,Ik,PR.out,TQ,hb7,qB,qi.out,by first | exact FW.out | (rw [<-uK.out];exact FW.out),TT,O0.out⟩)
      case measure=>(go_light;simp [intOf];omega)
     ·obtain ⟨jd,xK⟩:=zL (a:=j) (b:=m) (by omega);have HJ:=zC (show j=m by omega);have Rl:L'.length<=64 * (F + 1 - f):=by have:=ny.out;omega
      have O7:=zC (show L'.map Sh.l=(List.range' f (F + 1 - f)).flatMap λi=>(A.dM b n (i + 1)).map ((i:Int) :: ·) by
       have hm:m=l.length:=hSl.1.1;have e:F + 1 - f=(F - f) + 1:=by omega
       have e2:f + (F - f)=F:=by omega
       rw [hcI.out,HJ.out,hm,List.take_length,e,A.NY,List.flatMap_append,<-hcl.out,List.flatMap_singleton,e2,<-HD.out,<-iJ.out,List.map_map];rfl)
      go_wp2_with fail;go_roundw
      case rel=>(go_light;exact ⟨F + 1,L',by go_num,by omega,hlt,rJ,zO,nR,qE,Rl,O7.out⟩)
      case measure=>(go_light;simp [intOf];omega)
   ·obtain ⟨hd,hd2⟩:=zL (a:=F) (b:=b) (by omega);have Pg:=zC (show F=b by omega);go_wp2_with fail;go_ret;obtain ⟨E,c,rfl,hS,hc,hE⟩:=Df hown rfl hro;refine ⟨⟨E,_,c,L,rfl,hS,hc,?_,hE,hnw⟩,hbr⟩;rw [hcl.out,HC.out,Pg.out]
theorem ac5 (nd:Int) (A:aj) (n c:Nat) (x:Q) (w:World) (hX:dA w x.A x.n x.l) (zS:x.n<=1000000000) :
  ay 99 #[.agg #[.int .i64 nd,.slice A n c],iL x] w (bg w (K.jw nd x)):=by
 obtain ⟨g,hg⟩:=zB w.heap.size;obtain ⟨w0,hw0⟩:=zB (w.alloc (.cells #[.int .i64 nd,.slice A n c] 24));have b0:=aH hw0;have z0:w0.heap.size=g + 1:=by rw [hw0,hg];exact aF _ _
 have hN0:Net w0 g nd A n c:=by rw [hw0,hg];exact Net.new _ _ _ _ _
 obtain ⟨w1,hw1⟩:=zB (w0.alloc (.cells #[.int .i64 x.node,.int .i64 x.room,.int .i64 x.a_,.int .i64 x.service,.int .i64 x.aI,.int .i64 x.aP,.slice x.A x.n x.c] 47));have b1:=aH hw1;have hB1:dV w1 (g + 1) x:=by rw [hw1,<-z0];exact dV.new _ _
 have hN1:=hN0.below b1;have hb1:=bel b0 b1;obtain ⟨c0,c1,c2,c3,c4,c5,c6⟩:=hB1.cells;have CR:=Vw x w1 (hX.below hb1) zS;obtain ⟨z,hz⟩:=zB (T.right x);rw [<-hz] at CR;have HZ:=zC hz;go_enter Tryz.func99,Tryz.ntmps99;rw [hw1,hw0,hg] at c0 c1 c2 c3 c4 c5 c6;go_wp2_with fail;rw [<-hw0,<-hw1];refine CR.mono ?_;rintro e w2 ⟨rfl,b2⟩;clear hz CR c0 c1 c2 c3 c4 c5 c6 hw0 hw1;have kJ:=hN1.below b2;have hB2:=hB1.below b2;have p0:=kJ.c0;have q0:=hB2.cells.1;rw [hg] at p0 q0;have hb2:=bel hb1 b2;cases z
 ·go_wp2_with fail;go_ret;exact ⟨by unfold K.jw;rw [<-HZ.out];rfl,hb2⟩
 ·go_wp2_with fail;go_ret;exact ⟨by unfold K.jw;rw [<-HZ.out];rfl,hb2⟩
theorem XC (n:Nat) (hn:n<=1000000) (w:World) :
  ay 100 #[.int .i64 (n:Int)] w λe w'=>(∃ A c,e=.returned (.slice A n c)/\Ints w' A n (K.iota n)/\n<=c/\(∀ ad,A=some ad->w.heap.size<=ad.block))/\af w w':=by
 obtain ⟨w1,hw1⟩:=zB (w.alloc (.cells #[] 3));obtain ⟨g,hg⟩:=zB w.heap.size;have b1:=aH hw1;have hL1:w1.heap[g]? = some (.cells #[] 3 (0,0)):=by rw [hw1,hg];exact aA _ _
 have Lu:w1.ownsRow w.heap.size 3 1 (.slice (some ⟨g,0,none⟩) 0 0) 0 (intCells []):=uy hL1 (by rw [hg];exact zG _);go_enter Tryz.func100,Tryz.ntmps100;go_upto_region 2 with fail;rw [<-hw1,<-hg];clear hw1 hg hL1;go_wp2_with fail;go_loopw [3,4] (λv3 v4 wr=>∃ k:Nat,v4=.int .i64 (k:Int)/\k<=n/\wr.ownsRow w.heap.size 3 1 v3 k (intCells (K.lG 0 k))/\af w wr) (λ_ v4 _=>n - (intOf v4).toNat)
 case atStart=>exact ⟨0,rfl,aW _,Lu,b1⟩
 case round =>
  clear Lu;obtain ⟨k,rfl,hk,hown,hbr⟩:=hrel;by_cases hlt:k < n
  ·have k1:(k:Int) < (n:Int):=by omega
   obtain ⟨hd,hd2⟩:=zK (a:=k) (b:=n) (by omega);obtain ⟨w3,hw3⟩:=zB (wr.alloc (.cells #[.int .i64 (k:Int)] 3));obtain ⟨g3,hg3⟩:=zB wr.heap.size;have b3:=aH hw3;have hL3:w3.heap[g3]? = some (.cells #[.int .i64 (k:Int)] 3 (0,0)):=by rw [hw3,hg3];exact aA _ _
   have hown3:=own_below hown b3;have hb3:=bel hbr b3;have hz3:=hb3.size;have hk9:k<=1000000:=by omega
   go_wp2_with (first
    | (at_builtin;rw [<-hw3,<-hg3];refine wU rfl _ _ rfl w.heap.size _ k (K.lG 0 k) rfl hown3 g3 (k:Int) rfl hL3 hk9 hz3 ?_;intro v6 w6 hown6 h_ gy)
    | fail)
   have hb6:af w w6:=dY hb3 h_ (λg e=>(gz hown3 g e).1);have jO:w6.ownsRow w.heap.size 3 1 v6 (k + 1) (intCells (K.lG 0 (k + 1))):=by
    have e:K.lG 0 (k + 1)=K.lG 0 k ++ [(k:Int)]:=by
     unfold K.lG;rw [Nat.sub_zero,Nat.sub_zero,A.NY,eG];simp
    rw [e];exact hown6
   clear hw3 hg3 hown3 hown6 h_ gy;go_roundw
   case rel=>(go_light;exact ⟨k + 1,by go_num,hlt,jO,hb6⟩)
   case measure=>(go_light;simp [intOf];omega)
  ·obtain ⟨hd,hd2⟩:=zL (a:=k) (b:=n) (by omega);obtain rfl:k=n:=by omega
   go_wp2_with fail;obtain ⟨A,c,rfl,hI⟩:=o_ hown (K.OJ 0 k).symm;obtain ⟨-,-,-,-,hF⟩:=fP hown;go_ret;exact ⟨⟨A,c,rfl,by rw [<-K.aeg];exact hI,Dc hown,λad e=>(hF ad.block (by rw [e];rfl)).1⟩,hbr⟩
theorem EX (B:aj) (n c:Nat) (r:List Q) (V:aj) (vn vc:Nat) (v:ag) (x:Q) (w:World) (hR:dm w B n r) (hV:Ints w V vn v) (hv:∀ i ∈ v,0<=i/\i < (r.length:Int)) (hX:dA w x.A x.n x.l) (hvn:vn<=1000) :
  ay 101 #[.slice B n c,.slice V vn vc,iL x] w λe w'=>(∃ A k,e=.returned (.slice A (vn + 1) k)/\dm w' A (vn + 1) (K.dD r v x)/\vn + 1<=k/\(∀ ad,A=some ad->w.heap.size<=ad.block))/\af w w':=by
 obtain ⟨g,hg⟩:=zB w.heap.size;obtain ⟨w1,hw1⟩:=zB (w.alloc (.cells #[.int .i64 x.node,.int .i64 x.room,.int .i64 x.a_,.int .i64 x.service,.int .i64 x.aI,.int .i64 x.aP,.slice x.A x.n x.c] 47));have b1:=aH hw1;have hB1:dV w1 g x:=by rw [hw1,hg];exact dV.new _ _
 obtain ⟨w2,hw2⟩:=zB (w1.alloc (.cells #[] 47));obtain ⟨g2,hg2⟩:=zB w1.heap.size;have b2:=aH hw2;have hL2:w2.heap[g2]? = some (.cells #[] 47 (0,0)):=by rw [hw2,hg2];exact aA _ _
 have hO2:w2.ownsRow w1.heap.size 47 7 (.slice (some ⟨g2,0,none⟩) 0 0) 0 (([]:List Q).flatMap Q.cells):=uy hL2 (by rw [hg2];exact zG _);have iR:=zC hV.1;have aS:=zC hR.1;go_enter Tryz.func101,Tryz.ntmps101;go_upto_region 1 with fail;rw [<-hw1,<-hg];clear hw1 hg;go_upto_region 2 with fail;rw [<-hw2,<-hg2];clear hw2 hg2 hL2;go_wp2_with fail;go_loopw [7,8] (λv7 v8 wr=>∃ (k:Nat) (L:List Q),v8=.int .i64 (k:Int)/\k<=vn/\wr.ownsRow w1.heap.size 47 7 v7 k (L.flatMap Q.cells)/\Hid (L=(v.take k).map (K.req r))/\af w1 wr) (λ_ v8 _=>vn - (intOf v8).toNat)
 case atStart=>exact ⟨0,[],rfl,aW _,hO2,rfl,b2⟩
 case round =>
  clear hO2;obtain ⟨k,L,rfl,hk,hown,xq,hbr⟩:=hrel;by_cases hlt:k < vn
  ·obtain ⟨jJ,i,Hf,rM,ci⟩:=(hV.below (bel b1 hbr)).at_ hlt;obtain ⟨j,rfl⟩:∃ j:Nat,i=(j:Int):=⟨i.toNat,by have:=(hv i (zD rM)).1;omega⟩;have hjn:j < n:=by have:=(hv _ (zD rM)).2;have:=aS.out;omega
   obtain ⟨j0,j1⟩:=zJ (a:=j) (b:=n) (by omega);obtain ⟨k0,k1⟩:=zJ (a:=k) (b:=vn) (by omega);obtain ⟨uT,q,hBa,hq,hW,c0,c1,c2,c3,c4,c5,c6⟩:=(hR.below (bel b1 hbr)).at_ hjn;have bH:=zC (show L ++ [q] = (v.take (k + 1)).map (K.req r) by rw [take_snoc rM,eG,xq.out,List.map_singleton,K.N9 hq]);rw [Hf,hBa];obtain ⟨w3,hw3⟩:=zB (wr.alloc (.cells #[.int .i64 q.node,.int .i64 q.room,.int .i64 q.a_,.int .i64 q.service,.int .i64 q.aI,.int .i64 q.aP,.slice q.A q.n q.c] 47));obtain ⟨g3,hg3⟩:=zB wr.heap.size;have b3:=aH hw3;have hB3:w3.heap[g3]? = some (.cells #[.int .i64 q.node,.int .i64 q.room,.int .i64 q.a_,.int .i64 q.service,.int .i64 q.aI,.int .i64 q.aP,.slice q.A q.n q.c] 47 (0,0)):=by rw [hw3,hg3];exact aA _ _
   have hown3:=own_below hown b3;have hb3:=bel hbr b3;have hz3:=hb3.size;have hk9:k<=1000000:=by omega
   clear rM hq hW hown xq Hf hBa;go_wp2_with (first
    | (at_builtin;rw [<-hw3,<-hg3];refine Kq rfl _ _ rfl w1.heap.size _ k L rfl hown3 g3 q rfl hB3 hk9 hz3 ?_;intro v6 w6 hown6 h_ gy)
    | fail)
   have hb6:af w1 w6:=dY hb3 h_ (λg e=>(hown3.lt g e).1);clear c0 c1 c2 c3 c4 c5 c6 ci hw3 hg3 hown3 h_ gy;go_roundw
   case rel=>(go_light;exact ⟨k + 1,L ++ [q],by go_num,hlt,hown6,bH.out,hb6⟩)
   case measure=>(go_light;simp [intOf];omega)
  ·obtain ⟨hd,hd2⟩:=zL (a:=k) (b:=vn) (by omega);obtain ⟨c0,c1,c2,c3,c4,c5,c6⟩:=(hB1.below hbr).cells;obtain rfl:k=vn:=by omega
   have HLM:=zC (show L ++ [x] = K.dD r v x by
    rw [xq.out,fD (by have:=iR.out;omega)];rfl)
   obtain ⟨w3,hw3⟩:=zB (wr.alloc (.cells #[.int .i64 x.node,.int .i64 x.room,.int .i64 x.a_,.int .i64 x.service,.int .i64 x.aI,.int .i64 x.aP,.slice x.A x.n x.c] 47));obtain ⟨g3,hg3⟩:=zB wr.heap.size;have b3:=aH hw3;have hB3:w3.heap[g3]? = some (.cells #[.int .i64 x.node,.int .i64 x.room,.int .i64 x.a_,.int .i64 x.service,.int .i64 x.aI,.int .i64 x.aP,.slice x.A x.n x.c] 47 (0,0)):=by rw [hw3,hg3];exact aA _ _
   have hown3:=own_below hown b3;have hb3:=bel hbr b3;have hz3:=hb3.size;have hk9:k<=1000000:=by omega
   clear hown xq;go_wp2_with (first
    | (at_builtin;rw [<-hw3,<-hg3];refine Kq rfl _ _ rfl w1.heap.size _ k L rfl hown3 g3 x rfl hB3 hk9 hz3 ?_;intro v6 w6 hown6 h_ gy)
    | fail)
   have hb6:af w1 w6:=dY hb3 h_ (λg e=>(hown3.lt g e).1);have hb7:=bel b1 hb6;obtain ⟨A,c',rfl,jL,hF⟩:=fP hown6;have hcp:=ab5 hown6;go_ret;refine ⟨⟨A,c',rfl,⟨?_,?_,λp hp=>?_⟩,hcp,λad e=>?_⟩,hb7⟩
   ·have h1:=iR.out;unfold K.dD;rw [cZ,bu,<-h1];rfl
   ·rw [<-HLM.out,Ac];exact jL
   ·unfold K.dD at hp;rcases dX.1 hp with hp | hp
    ·obtain ⟨i,hi,rfl⟩:=fE.1 hp;obtain ⟨h1,h2⟩:=hv i hi;obtain ⟨j,rfl⟩:∃ j:Nat,i=(j:Int):=⟨i.toNat,by omega⟩;have hj:r[j]? = some (r[j]'(by omega)):=zF (by omega);rw [K.N9 hj];exact (hR.below hb7).2.2 _ (List.getElem_mem _)
    ·rw [dB.1 hp];exact hX.below hb7
   ·have h1:=(hF ad.block (by rw [e];rfl)).1;have h2:=b1.size;omega
namespace A
def val (m:Nat):List Nat->Nat
 | []=>0
 | x :: d=>x * m ^ d.length + val m d
theorem val_zero (m:Nat):∀ n,val m (List.replicate n 0)=0
 | 0=>rfl
 | n + 1=>by rw [List.replicate_succ,val,val_zero m n,Nat.zero_mul]
theorem VQ {m:Nat}:∀ {d:List Nat},(∀ s ∈ d,s < m)->val m d < m ^ d.length
 | [],_=>by simp [val]
 | x :: d,h=>by
  have h1:=h x (dJ ..);have h2:=VQ λs hs=>h s (dN _ hs);rw [val,dQ,Nat.pow_succ];have h3:(x + 1) * m ^ d.length<=m * m ^ d.length:=Nat.mul_le_mul_right _ h1;rw [Nat.succ_mul] at h3;rw [Nat.mul_comm (m ^ d.length) m];omega
theorem VR {m:Nat}:∀ {d:List Nat},(∀ s ∈ d,s < m)->(∀ d',next m d=some d'->val m d'=val m d + 1/\d'.length=d.length/\∀ s ∈ d',s < m)/\(next m d=none->val m d + 1=m ^ d.length)
 | [],_=>⟨λd' h=>(by cases h),λ_=>by simp [val]⟩
 | x :: d,h=>by
  have h1:=h x (dJ ..);have hd:∀ s ∈ d,s < m:=λs hs=>h s (dN _ hs);obtain ⟨i1,i2⟩:=VR hd;cases hn:next m d with
  | some d1 =>
   obtain ⟨g1,g2,g3⟩:=i1 d1 hn;refine ⟨λd' h'=>?_,λh'=>?_⟩
   ·rw [next,hn] at h';injection h' with h';subst h';refine ⟨by rw [val,val,g1,g2];omega,by rw [dQ,dQ,g2],λs hs=>?_⟩;rcases dw.1 hs with rfl | hs
    ·exact h1
    ·exact g3 s hs
   ·rw [next,hn] at h';cases h'
  | none =>
   have i3:=i2 hn;by_cases hx:x + 1 < m
   ·refine ⟨λd' h'=>?_,λh'=>?_⟩
    ·rw [next,hn] at h';dsimp only at h';rw [if_pos hx] at h';injection h' with h';subst h';refine ⟨by rw [val,val,val_zero,List.length_replicate,Nat.succ_mul];omega,by simp,λs hs=>?_⟩;rcases dw.1 hs with rfl | hs
     ·exact hx
     ·have:=List.eq_of_mem_replicate hs;omega
    ·rw [next,hn] at h';dsimp only at h';rw [if_pos hx] at h';cases h'
   ·refine ⟨λd' h'=>?_,λ_=>?_⟩
    ·rw [next,hn] at h';dsimp only at h';rw [if_neg hx] at h';cases h'
    ·have e:m=x + 1:=by omega
     rw [val,dQ,Nat.pow_succ,Nat.mul_comm (m ^ d.length) m];have h3:m * m ^ d.length=x * m ^ d.length + m ^ d.length:=by
      conv=>lhs;rw [show m * m ^ d.length=(x + 1) * m ^ d.length by rw [<-e]]
      rw [Nat.succ_mul]
     omega
theorem YE {m:Nat} (hm:0 < m) (k:Nat):(exts m k)[0]? = some (List.replicate k 0):=by
 rw [<-QJ hm k,List.head?_eq_getElem?]
theorem agx {B:Nat->List Int->Bool} {m n j:Nat} {d:List Nat} (hj:(exts m n)[j]? = some d) (hb:∀ e ∈ (exts m n).take j,possible B m e=false) (hd:possible B m d=true):first B m n=some d:=by
 obtain ⟨hl,e⟩:=zE.1 hj;unfold first;have h1:exts m n=(exts m n).take j ++ d :: (exts m n).drop (j + 1):=by rw [<-e,<-jE hl,List.take_append_drop]
 rw [h1,List.find?_append,List.find?_eq_none.2 (λx hx=>by rw [hb x hx];simp),Option.none_or,List.find?_cons_of_pos hd]
theorem agy {B:Nat->List Int->Bool} {m n:Nat} (hb:∀ e ∈ exts m n,possible B m e=false):first B m n=none:=by
 unfold first;exact List.find?_eq_none.2 λx hx=>by rw [hb x hx];simp
end A
theorem YJ {α β:Type} {f g:α->Option β}:∀ (l:List α),(∀ x ∈ l,f x=g x)->l.filterMap f=l.filterMap g
 | [],_=>rfl
 | a :: l,h=>by rw [List.filterMap_cons,List.filterMap_cons,h a (dJ ..),YJ l λx hx=>h x (dN _ hx)]
namespace K
def oO (nd:Int) (l:List Ro) (s:S) (r:List Q) (n:Nat):Tr × Int:=if n=0 then (Tr.zero,0) else jF nd l s r (part (iota r.length) n)
theorem Va {n:Nat} {v:ag} (hn:n<=4) (hv:v.Pairwise (· < ·)) (hm:∀ x ∈ v,0<=x/\x < (n:Int)):part (iota n) (num v)=v/\num v < 2 ^ n:=by
 obtain ⟨m,h1,h2⟩:=Ox (A.Jo hv (Uz n) λx hx=>zY.2 (hm x hx));rw [Nj] at h1;have h3:=(ajK hn h1).1;rw [h2] at h3;rw [h3];exact ⟨h2,h1⟩
theorem aci:∀ (l:ag),part l 0=[]
 | []=>rfl
 | i :: l=>by
  rw [part,if_neg (by rw [Nat.zero_testBit];decide),Nat.zero_div];exact aci l
theorem num_nil {n:Nat} {v:ag} (hn:n<=4) (hv:v.Pairwise (· < ·)) (hm:∀ x ∈ v,0<=x/\x < (n:Int)):num v=0 ↔ v=[]:=by
 constructor
 ·intro h;have h1:=(Va hn hv hm).1;rw [h,aci] at h1;exact h1.symm
 ·intro h;rw [h];rfl
section
variable {nd : Int} {l : List Ro} {ss : List S} {r : List Q}
theorem XP {x:S} (hr:r.length<=4) {v:ag} (hv:v.Pairwise (· < ·)) (hm:∀ y ∈ v,0<=y/\y < (r.length:Int)):oO nd l x r (num v)=if v.isEmpty=true then (Tr.zero,0) else jF nd l x r v:=by
 unfold oO;by_cases h:v=[]
 ·subst h;rw [if_pos (show num [] = 0 from rfl),if_pos (show ([]:ag).isEmpty=true from rfl)]
 ·rw [if_neg (λe=>h ((num_nil hr hv hm).1 e)),if_neg (λe=>h (List.isEmpty_iff.1 e)),(Va hr hv hm).1]
def xX (nd:Int) (l:List Ro) (ss:List S) (r:List Q) (d:List Nat) (n:Nat):Bool:=(List.range n).all λs=>match ss[s]? with
 | none=>false
 | some x=>(oO nd l x r (num (A.share d s 0))).2 == 0
def Jh (nd:Int) (l:List Ro) (ss:List S) (r:List Q) (d:List Nat) (s:Nat):Option (Nat × Tr):=if num (A.share d s 0)=0 then none else match ss[s]? with
 | none=>none
 | some x=>some (s,(oO nd l x r (num (A.share d s 0))).1)
def uz (nd:Int) (l:List Ro) (ss:List S) (r:List Q) (d:List Nat) (n:Nat):List (Nat × Tr):=(List.range n).filterMap (Jh nd l ss r d)
theorem Jm {d:List Nat} (hd:d.length=r.length) (s:Nat):∀ y ∈ A.share d s 0,0<=y/\y < (r.length:Int):=λy hy=>by
 have:=A.x8 hy;omega
theorem adn (hr:r.length<=4) {d:List Nat} (hd:d.length=r.length):xX nd l ss r d ss.length=A.possible (eH nd l ss r) ss.length d:=by
 unfold xX A.possible;rw [Bool.eq_iff_iff,List.all_eq_true,List.all_eq_true];refine forall_congr' λs=>forall_congr' λhs=>?_;have hs':=List.mem_range.1 hs;rw [zF hs'];dsimp only;rw [XP hr (A.sD d s 0) (Jm hd s)];unfold eH;rw [zF hs'];dsimp only;cases (A.share d s 0).isEmpty
 ·rw [if_neg (by decide),Bool.false_or]
 ·rw [if_pos rfl];simp
theorem ak4 (hr:r.length<=4) {d:List Nat} (hd:d.length=r.length) (hp:xX nd l ss r d ss.length=true):uz nd l ss r d ss.length=vY nd l ss r d:=by
 unfold uz vY;have key:∀ s ∈ List.range ss.length,Jh nd l ss r d s=vX nd l ss r d s:=λs hs=>by
  have hs':=List.mem_range.1 hs;have h1:=List.all_eq_true.1 hp s hs;unfold Jh vX;rw [zF hs'] at h1 ⊢;dsimp only at h1 ⊢;rw [XP hr (A.sD d s 0) (Jm hd s)] at h1 ⊢;by_cases he:A.share d s 0=[]
  ·have h2:(A.share d s 0).isEmpty=true:=List.isEmpty_iff.2 he;rw [if_pos ((num_nil hr (A.sD d s 0) (Jm hd s)).2 he),if_pos h2]
  ·have h2:¬ (A.share d s 0).isEmpty=true:=λe=>he (List.isEmpty_iff.1 e);rw [if_neg h2] at h1;rw [if_neg (λe=>he ((num_nil hr (A.sD d s 0) (Jm hd s)).1 e)),if_neg h2,if_neg h2];obtain ⟨g1,t,g2⟩:=KE.1 (beq_iff_eq.1 h1);rw [KD g1 g2,g2];rfl
 exact YJ _ key
theorem akY {d:List Nat} {s:Nat} {x:S} (hx:ss[s]? = some x):xX nd l ss r d (s + 1)=(xX nd l ss r d s && ((oO nd l x r (num (A.share d s 0))).2 == 0)):=by
 unfold xX;rw [List.range_succ,List.all_append,List.all_cons,List.all_nil,Bool.and_true,hx]
theorem ak5 {d:List Nat} {s:Nat} (h:num (A.share d s 0)=0):uz nd l ss r d (s + 1)=uz nd l ss r d s:=aej (by unfold Jh;rw [if_pos h])
theorem ak6 {d:List Nat} {s:Nat} {x:S} (hx:ss[s]? = some x) (h:num (A.share d s 0) ≠ 0):uz nd l ss r d (s + 1)=uz nd l ss r d s ++ [(s,(oO nd l x r (num (A.share d s 0))).1)]:=aek (by unfold Jh;rw [if_neg h,hx])
theorem aj6 (h:bK nd l ss r=0) (hr:r.length<=4) {j:Nat} {d:List Nat} (hj:(A.exts ss.length r.length)[j]? = some d) (hb:∀ e ∈ (A.exts ss.length r.length).take j,A.possible (eH nd l ss r) ss.length e=false) (hp:xX nd l ss r d ss.length=true) :
  plan nd l ss r=(uz nd l ss r d ss.length,0):=by
 have hd:=(A.rV.1 (zD hj)).1;have h1:=A.agx hj hb (by rw [<-adn hr hd];exact hp);unfold plan;rw [if_pos h,h1,ak4 hr hd hp]
theorem acz (h:bK nd l ss r=0) (hb:∀ e ∈ A.exts ss.length r.length,A.possible (eH nd l ss r) ss.length e=false):plan nd l ss r=([],4):=by
 unfold plan;rw [if_pos h,A.agy hb]
end
theorem agf {m k:Nat} (h:0 < m\/k=0):(A.exts m k)[0]? = some (List.replicate k 0):=by
 rcases h with h | h
 ·exact A.YE h k
 ·subst h;rfl
theorem agh (k:Nat):A.exts 0 (k + 1)=[]:=rfl
end K
end Go.Proofs.YtippdjmpkafifaaGreat
