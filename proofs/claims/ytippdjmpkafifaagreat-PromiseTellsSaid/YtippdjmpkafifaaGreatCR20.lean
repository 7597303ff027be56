import Derived.Test.YtippdjmpkafifaaGreatCR18
import Derived.Test.YtippdjmpkafifaaGreatCR9
import Derived.Test.YtippdjmpkafifaaGreatCR16
import Derived.Test.YtippdjmpkafifaaGreatCR19
import Derived.Test.YtippdjmpkafifaaGreatCR15
import Derived.Test.YtippdjmpkafifaaGreatCR13
set_option maxRecDepth 100000
set_option maxHeartbeats 64000000
namespace Go.Proofs.YtippdjmpkafifaaGreat
open Go.RowKit
theorem afD (x:C) (sh:Int) (V:aj) (vn vc:Nat) (v:ag) (LA:aj) (ln lc:Nat) (l:List Lb) (w:World) (hx:At w x) (hV:Ints w V vn v) (hvn:vn<=1000000000) (hL:gY w LA ln l) (hln:ln<=1000000000) :
  ay 90 #[.agg #[.int .i64 x.nd,.slice x.A x.n x.c],fG x.s,.slice x.B x.m x.d,.agg #[.int .i64 sh,.slice V vn vc,.slice LA ln lc]] w (bg w (K.blocks x.nd x.l x.s x.r v l)):=by
 obtain ⟨w1,hw1⟩:=zB (w.alloc (.cells #[.int .i64 x.nd,.slice x.A x.n x.c] 24));obtain ⟨w2,hw2⟩:=zB (w1.alloc (.cells #[.int .i64 x.s.day,.int .i64 x.s.ax,.int .i64 x.s.start,.int .i64 x.s.end_,.int .i64 x.s.aU,.slice x.s.A x.s.n x.s.c] 63));obtain ⟨w3,hw3⟩:=zB (w2.alloc (.cells #[.int .i64 sh,.slice V vn vc,.slice LA ln lc] 90));have z1:w1.heap.size=w.heap.size + 1:=by rw [hw1];exact aF _ _
 have z2:w2.heap.size=w.heap.size + 1 + 1:=by rw [hw2,aF,z1]
 have b01:=aH hw1;have b12:=aH hw2;have bQ:=aH hw3;have hP:Net w3 w.heap.size x.nd x.A x.n x.c:=by
  have h1:Net w1 w.heap.size x.nd x.A x.n x.c:=by rw [hw1];exact Net.new _ _ _ _ _
  exact (h1.below b12).below bQ
 have hS:bI w3 (w.heap.size + 1) x.s:=by
  have h1:bI w2 (w.heap.size + 1) x.s:=by rw [<-z1,hw2];exact bI.new _ _
  exact h1.below bQ
 have hB:w3.heap[w.heap.size + 1 + 1]? = some (.cells #[.int .i64 sh,.slice V vn vc,.slice LA ln lc] 90 (0,0)):=by rw [<-z2,hw3];exact aA _ _
 have hb:=bel (bel b01 b12) bQ;have bM:=zC hV.1;go_enter Tryz.func90,Tryz.ntmps90;go_upto_region 1 with fail;rw [<-hw1,<-hw2,<-hw3];clear hw1 hw2 hw3 z1 z2 b01 b12 bQ;have hmk:∀ w',af w3 w'->(λw':World=>af w3 w'/\w'.cell? ⟨w.heap.size,0,none⟩=some (.int .i64 x.nd)/\w'.cell? ⟨w.heap.size,1,none⟩=some (.slice x.A x.n x.c)/\w'.cell? ⟨w.heap.size + 1,0,none⟩=some (.int .i64 x.s.day)/\w'.cell? ⟨w.heap.size + 1,1,none⟩=some (.int .i64 x.s.ax)/\w'.cell? ⟨w.heap.size + 1,2,none⟩=some (.int .i64 x.s.start)/\w'.cell? ⟨w.heap.size + 1,3,none⟩=some (.int .i64 x.s.end_)/\w'.cell? ⟨w.heap.size + 1,4,none⟩=some (.int .i64 x.s.aU)/\w'.cell? ⟨w.heap.size + 1,5,none⟩=some (.slice x.s.A x.s.n x.s.c)/\w'.cell? ⟨w.heap.size + 1 + 1,0,none⟩=some (.int .i64 sh)/\w'.cell? ⟨w.heap.size + 1 + 1,1,none⟩=some (.slice V vn vc)/\w'.cell? ⟨w.heap.size + 1 + 1,2,none⟩=some (.slice LA ln lc)) w':=λw' h=>⟨h,(hP.below h).c0,(hP.below h).c1,(hS.below h).cells.1,(hS.below h).cells.2.1,(hS.below h).cells.2.2.1,(hS.below h).cells.2.2.2.1,(hS.below h).cells.2.2.2.2.1,(hS.below h).cells.2.2.2.2.2,ah (au h hB) 0 _ rfl,ah (au h hB) 1 _ rfl,ah (au h hB) 2 _ rfl⟩;have uh:∀ w',af w3 w'->At w' x:=λw' h=>(hx.below hb).below h;have nN:∀ w',af w3 w'->Ints w' V vn v:=λw' h=>(hV.below hb).below h;cases mJ:K.bF x.nd x.l x.s x.r v
 ·have HX:=zC (show K.blocks x.nd x.l x.s x.r v l=false by simp [K.blocks,mJ]);have C:∀ j:ak w3,ay 130 #[.agg #[.int .i64 x.nd,.slice x.A x.n x.c],fG x.s,.slice x.B x.m x.d,.slice V vn vc] j.val (bg j.val false):=λj=>by
   have h:=Oe x V vn vc v j.val (uh _ j.property) (nN _ j.property) hvn;rw [mJ] at h;exact h
  clear mJ uh nN;obtain ⟨-,p0,p1,s0,s1,s2,s3,s4,s5,b0,b1,b2⟩:=hmk _ ai;have p0:=ak.cell p0;have p1:=ak.cell p1;have s0:=ak.cell s0;have s1:=ak.cell s1;have s2:=ak.cell s2;have s3:=ak.cell s3;have s4:=ak.cell s4;have s5:=ak.cell s5;have b0:=ak.cell b0;have b1:=ak.cell b1;have b2:=ak.cell b2;clear hmk;refine fV (by kernel_rfl) (by kernel_rfl) ?_;repeat (go_big_quiet_step ((go_at_call 130;exact ak.calls (C _))))
  refine wpQuiet_nil ?_;rintro w4 ⟨⟨_,iw⟩,rfl⟩;go_wp2_with fail;go_ret;exact ⟨aK HX.out.symm,bel hb iw⟩
 have hv6:vn<=6:=by rw [hV.1];exact (K.jl mJ).2.2.2.2.1
 have aY:=zC mJ;have V9:=zC (show ∀ j:ak w3,ay 130 #[.agg #[.int .i64 x.nd,.slice x.A x.n x.c],fG x.s,.slice x.B x.m x.d,.slice V vn vc] j.val λe w'=>e=.returned (.bool true)/\af j.val w' from λj=>by
   have h:=Oe x V vn vc v j.val (uh _ j.property) (nN _ j.property) hvn;rw [mJ] at h;exact h)
 clear mJ;cases hv0:((vn:Int) == 0);rotate_left
 ·have h0:vn=0:=by simpa using hv0
  have ah6:(vn == 0)=true:=by simp [h0]
  have HX:=zC (show K.blocks x.nd x.l x.s x.r v l=false by
   have h1:v.length=0:=by rw [<-bM.out];exact h0
   simp [K.blocks,h1])
  have C:=V9.out;clear uh nN h0;obtain ⟨-,p0,p1,s0,s1,s2,s3,s4,s5,b0,b1,b2⟩:=hmk _ ai;have p0:=ak.cell p0;have p1:=ak.cell p1;have s0:=ak.cell s0;have s1:=ak.cell s1;have s2:=ak.cell s2;have s3:=ak.cell s3;have s4:=ak.cell s4;have s5:=ak.cell s5;have b0:=ak.cell b0;have b1:=ak.cell b1;have b2:=ak.cell b2;clear hmk;refine fV (by kernel_rfl) (by kernel_rfl) ?_;repeat (go_big_quiet_step ((go_at_call 130;exact ak.calls (C _))))
  refine wpQuiet_nil ?_;rintro w4 ⟨⟨_,iw⟩,rfl⟩;go_wp2_with fail;go_ret;exact ⟨aK HX.out.symm,bel hb iw⟩
 have ah6:(vn == 0)=false:=by have:¬ vn=0:=by simpa using hv0
                              simpa using this
 have uN:=zC (show ¬ vn=0 by simpa using hv0);have S0:=hmk _ ai;have hSd:∀ w',(λw':World=>af w3 w'/\w'.cell? ⟨w.heap.size,0,none⟩=some (.int .i64 x.nd)/\w'.cell? ⟨w.heap.size,1,none⟩=some (.slice x.A x.n x.c)/\w'.cell? ⟨w.heap.size + 1,0,none⟩=some (.int .i64 x.s.day)/\w'.cell? ⟨w.heap.size + 1,1,none⟩=some (.int .i64 x.s.ax)/\w'.cell? ⟨w.heap.size + 1,2,none⟩=some (.int .i64 x.s.start)/\w'.cell? ⟨w.heap.size + 1,3,none⟩=some (.int .i64 x.s.end_)/\w'.cell? ⟨w.heap.size + 1,4,none⟩=some (.int .i64 x.s.aU)/\w'.cell? ⟨w.heap.size + 1,5,none⟩=some (.slice x.s.A x.s.n x.s.c)/\w'.cell? ⟨w.heap.size + 1 + 1,0,none⟩=some (.int .i64 sh)/\w'.cell? ⟨w.heap.size + 1 + 1,1,none⟩=some (.slice V vn vc)/\w'.cell? ⟨w.heap.size + 1 + 1,2,none⟩=some (.slice LA ln lc)) w'->(λw':World=>af w3 w'/\w'.cell? ⟨w.heap.size,0,none⟩=some (.int .i64 x.nd)/\w'.cell? ⟨w.heap.size,1,none⟩=some (.slice x.A x.n x.c)/\w'.cell? ⟨w.heap.size + 1,0,none⟩=some (.int .i64 x.s.day)/\w'.cell? ⟨w.heap.size + 1,1,none⟩=some (.int .i64 x.s.ax)/\w'.cell? ⟨w.heap.size + 1,2,none⟩=some (.int .i64 x.s.start)/\w'.cell? ⟨w.heap.size + 1,3,none⟩=some (.int .i64 x.s.end_)/\w'.cell? ⟨w.heap.size + 1,4,none⟩=some (.int .i64 x.s.aU)/\w'.cell? ⟨w.heap.size + 1,5,none⟩=some (.slice x.s.A x.s.n x.s.c)/\w'.cell? ⟨w.heap.size + 1 + 1,0,none⟩=some (.int .i64 sh)/\w'.cell? ⟨w.heap.size + 1 + 1,1,none⟩=some (.slice V vn vc)/\w'.cell? ⟨w.heap.size + 1 + 1,2,none⟩=some (.slice LA ln lc)) w'.drew:=λw' h=>hmk _ h.1.drew;have hLx:∀ w',af w3 w'->gY w' LA ln l:=λw' h=>aX.below hL (bel hb h)
 go_region_held3 (λw':World=>af w3 w'/\w'.cell? ⟨w.heap.size,0,none⟩=some (.int .i64 x.nd)/\w'.cell? ⟨w.heap.size,1,none⟩=some (.slice x.A x.n x.c)/\w'.cell? ⟨w.heap.size + 1,0,none⟩=some (.int .i64 x.s.day)/\w'.cell? ⟨w.heap.size + 1,1,none⟩=some (.int .i64 x.s.ax)/\w'.cell? ⟨w.heap.size + 1,2,none⟩=some (.int .i64 x.s.start)/\w'.cell? ⟨w.heap.size + 1,3,none⟩=some (.int .i64 x.s.end_)/\w'.cell? ⟨w.heap.size + 1,4,none⟩=some (.int .i64 x.s.aU)/\w'.cell? ⟨w.heap.size + 1,5,none⟩=some (.slice x.s.A x.s.n x.s.c)/\w'.cell? ⟨w.heap.size + 1 + 1,0,none⟩=some (.int .i64 sh)/\w'.cell? ⟨w.heap.size + 1 + 1,1,none⟩=some (.slice V vn vc)/\w'.cell? ⟨w.heap.size + 1 + 1,2,none⟩=some (.slice LA ln lc))
  (first | assumption | exact S0 | exact hSd _ (by assumption))
  (first
   | (go_at_call 130;refine (V9.out ⟨_,And.left (by assumption)⟩).mono ?_;rintro e w4 ⟨rfl,bb⟩;have S4:=hmk _ (bel (And.left (by assumption)) bb))
   | (go_at_call 82;refine (aiv x V vn vc v _ (uh _ S4.1) (nN _ S4.1) hvn).mono ?_;rintro e w6 ⟨⟨A6,n6,c6,rfl,dS⟩,b6⟩;have S6:=hmk _ (bel S4.1 b6))
   | (go_at_call 83;refine (adG LA A6 ln n6 lc c6 l (K.bG x.nd x.l x.s x.r v) w6 (hLx _ S6.1) dS hln (by rw [dS.1];exact aN (K.UG _ _ _ _ _) (by omega))).mono ?_;rintro e w7 ⟨rfl,b7⟩;have S7:=hmk _ (bel S6.1 b7))
   | fail)
 obtain ⟨z,hz⟩:=zB (decide (l=K.bG x.nd x.l x.s x.r v));rw [<-hz];have HZ:=zC hz;have Gq:=S7.1;have hP:=hP.below Gq;have hS:=hS.below Gq;have hB:=au Gq hB;have hb7:=bel hb Gq;clear S0 S4 S6 S7 hSd hmk uh nN hLx dS bb b6 b7 hz Gq;cases z
 ·have HX:=zC (show K.blocks x.nd x.l x.s x.r v l=false by unfold K.blocks;rw [<-HZ.out];simp);go_wp2_with fail;go_ret;exact ⟨aK HX.out.symm,hb7⟩
 have hll:l=K.bG x.nd x.l x.s x.r v:=iH HZ.out.symm;obtain ⟨N,hN⟩:∃ N,N=2 ^ vn:=⟨_,rfl⟩;have hN1:1<=N:=by rw [hN];exact Nat.two_pow_pos vn
 have GY:N<=64:=by rw [hN];exact Nat.pow_le_pow_right (by omega) hv6
 have hw1:IntKind.i64.wrap ((2:Int) ^ vn)=(N:Int):=by rw [sG (by omega),hN];simp
 have hw2:wrap64 ((2:Int) ^ vn)=(N:Int):=by rw [<-IntWalk.i64_left];exact hw1
 have wH:=zC hN;have HW1:=zC hw1;have HW2:=zC hw2;clear hN hw1 hw2;obtain ⟨al,hal⟩:=zB (N - 1);have HW3:=zC (show IntKind.i64.wrap ((N:Int) - 1)=(al:Int) by rw [dh _ (by omega)];omega);have HW4:=zC (show wrap64 ((N:Int) - 1)=(al:Int) by rw [<-IntWalk.i64_left];exact HW3.out);have uI:=zC (show al=2 ^ v.length - 1 by rw [hal,wH.out,bM.out]);have HX:=zC (show K.blocks x.nd x.l x.s x.r v l=!((l.drop 0).any (K.opensAt x.nd x.l x.s x.r v al)) by
  unfold K.blocks;rw [<-HZ.out,aY.out,uI.out,List.drop_zero];have h0:(v.length == 0)=false:=by have:=uN.out;rw [bM.out] at this;simpa using this
  rw [h0];simp)
 have qi:=zC hll;clear hll hal;obtain ⟨s0,s1,s2,s3,s4,s5⟩:=hS.cells;have e1:=ah hB 1 _ rfl;go_wp2_with fail;refine (Oo x.s x.B x.m x.d x.r V vn vc v _ (hx.below hb7).gW hx.b2 (hx.below hb7).bf hx.b3 hx.b4 (hV.below hb7) hvn).mono ?_;obtain ⟨wt,hwt⟩:=zB (T.weight x.s x.r v);rw [<-hwt];rintro e w8 ⟨rfl,rq⟩;have yE:=zC hwt;have hP:=hP.below rq;have hS:=hS.below rq;have hB:=au rq hB;have hb8:=bel hb7 rq;clear s0 s1 s2 s3 s4 s5 e1 hwt;obtain ⟨hne,hck,hdp,-,-,-⟩:=K.jl aY.out;obtain ⟨-,⟨d0,-⟩,st0,st1,tC⟩:=K.tu hck;obtain ⟨dp,Tj⟩:∃ dp:Nat,x.s.ax=(dp:Int):=⟨x.s.ax.toNat,by omega⟩;have iq:=zC hne;have JD:=zC Tj;have ahr:(dp:Int) < x.nd:=by rw [<-Tj];exact hdp
 clear hne hck hdp Tj d0;go_wp2_with fail;go_loopw [10] (λv10 wr=>∃ k:Nat,v10=.int .i64 k/\k<=ln/\Hid (K.blocks x.nd x.l x.s x.r v l=!((l.drop k).any (K.opensAt x.nd x.l x.s x.r v al)))/\af w8 wr) (λv10 _=>ln - (intOf v10).toNat)
 case atStart=>exact ⟨0,rfl,aW _,HX.out,ai⟩
 case round =>
  clear HX;obtain ⟨k,rfl,hk,hbk,hbr⟩:=hrel;have hb:=bel hb8 hbr;have b2:=ah (au hbr hB) 2 _ rfl;by_cases hlt:k < ln
  ·obtain ⟨adk,y,rfl,TC,c0,c1,c2⟩:=gY.at_ (aX.below hL hb) hlt;have JB:=zC (show K.blocks x.nd x.l x.s x.r v l=!(K.opensAt x.nd x.l x.s x.r v al y || (l.drop (k + 1)).any (K.opensAt x.nd x.l x.s x.r v al)) by rw [hbk.out,oU TC]);obtain ⟨m,i,hm,hi,hbit,hy⟩:=K.abE aY.out (by rw [<-qi.out];exact zD TC);subst hy;dsimp only at c0 c1 c2;rw [<-bM.out] at hi;have hLb:=K.IP (nd:=x.nd) (l:=x.l) (s:=x.s) (r:=x.r) (K.ru aY.out) m i;obtain ⟨L,hL'⟩:=zB (K.lab x.nd x.l x.s x.r v m i);have OY:=JB.out;rw [<-hL'] at c2 hLb OY;have wE:=zC OY;clear TC hm hbit JB OY hL';obtain ⟨jJ,kv,rfl,hkv,ci⟩:=(hV.below hb).at_ hi;obtain ⟨d,dn,q,hkd,hd,Eo,Cj,hdn,Ti,qs0,qs1⟩:=YA aY.out hkv;subst hkd;have hdm:d < x.m:=by rw [hx.bf.1];exact hd
   obtain ⟨uT,q2,vJ,hgq,hwq,e0,-⟩:=((hx.below hb).bf).at_ hdm;rw [Eo] at hgq;injection hgq with hgq;subst hgq;rw [hdn] at e0;obtain ⟨y,hy⟩:=zB (K.way x.nd x.l (dn:Int) wt (dp:Int));have hyb:=K.jY x.nd x.l (dn:Int) wt (dp:Int);rw [<-hy] at hyb;have HY:=zC hy;have DD:=zC (show K.opensAt x.nd x.l x.s x.r v al ⟨m,i,L⟩=(((m:Int) == (al:Int)) && ((L != -1) && ((y != -1) && decide (L + y<=x.s.end_)))) by
    unfold K.opensAt;dsimp only;rw [kE,hkv,Option.getD_some,Cj,hdn,uI.out,K.U9,<-yE.out,JD.out,<-hy];rfl)
   obtain ⟨w9,o7⟩:=zB (wr.alloc (.cells #[.int .i64 (m:Int),.int .i64 (i:Int),.int .i64 L] 167));have b9:=aH o7;have L8:w9.heap[wr.heap.size]? = some (.cells #[.int .i64 (m:Int),.int .i64 (i:Int),.int .i64 L] 167 (0,0)):=by rw [o7];exact aA _ _
   have vG:=bel hbr b9;have ji:=bel hb8 vG;have ci:=(b9.cell (cell_lt ci)).trans ci;have e0:=(b9.cell (cell_lt e0)).trans e0;obtain ⟨II,IJ⟩:=zJ (a:=k) (b:=ln) (by omega);obtain ⟨UA,aa7⟩:=zK (a:=k) (b:=ln) (by omega);have wI:=zC vJ;have wF:=zC (show (d:Int) < (x.m:Int) by omega);clear hy hkv hd Eo Cj hdn vJ hwq qs0 qs1 hdm;go_upto_region 8 with fail;rw [<-o7];clear o7 c0 c1 c2 b2 II IJ UA aa7;have l0:=ah L8 0 _ rfl;have l1:=ah L8 1 _ rfl;have l2:=ah L8 2 _ rfl;have nK:=au vG hB;have f1:=ah nK 1 _ rfl;have f2:=ah nK 2 _ rfl;have hw1:=HW1.out;have hw2:=HW2.out;have hw3:=HW3.out;have hw4:=HW4.out;cases hma:((m:Int) == (al:Int))
   ·have HN:=zC (show K.blocks x.nd x.l x.s x.r v l=!((l.drop (k + 1)).any (K.opensAt x.nd x.l x.s x.r v al)) by rw [wE.out,DD.out,hma];rfl)
    have aau:(m == al)=false:=by have:¬ (m:Int)=(al:Int):=by simpa using hma
                                 simp;omega
    clear wE DD;go_quiet (fail);clear hw1 hw2 hw3 hw4;go_wp2_with fail;go_roundw
    case rel=>exact ⟨k + 1,by go_num,hlt,HN.out,below_drewN vG _⟩
    case measure=>simp [intOf];omega
   have aau:(m == al)=true:=by have:(m:Int)=(al:Int):=by simpa using hma
                               simp;omega
   by_cases hL0:0<=L;rotate_left
   ·have g1:decide (0<=L)=false:=zI hL0;have HN:=zC (show K.blocks x.nd x.l x.s x.r v l=!((l.drop (k + 1)).any (K.opensAt x.nd x.l x.s x.r v al)) by
     have h1:(L != -1)=false:=by have:L=-1:=by omega
                                 simp [this]
     rw [wE.out,DD.out,h1];simp)
    clear wE DD;go_quiet (fail);clear hw1 hw2 hw3 hw4;go_wp2_with fail;go_roundw
    case rel=>exact ⟨k + 1,by go_num,hlt,HN.out,below_drewN vG _⟩
    case measure=>simp [intOf];omega
   have g1:decide (0<=L)=true:=zH hL0
   have h1:(L != -1)=true:=by have:¬ L=-1:=by omega
                              simpa using this
   have WE:=zC (show K.opensAt x.nd x.l x.s x.r v al ⟨m,i,L⟩=((y != -1) && decide (L + y<=x.s.end_)) by rw [DD.out,hma,h1];rfl);clear DD h1;go_quiet (fail);obtain ⟨wa,qf⟩:=zB (w9.drewN nq);rw [<-qf];have yQ:af w9 wa:=by rw [qf];exact below_drewN ai _
   clear qf hw1 hw2 hw3 hw4 l0 l1 l2 f1 f2 hma aau g1;go_upto_region 9 with fail;have Hr:=bel vG yQ;have ZQ:=au yQ L8;have l1:=ah ZQ 1 _ rfl;have f1:=ah (au yQ nK) 1 _ rfl;have ci:=(yQ.cell (cell_lt ci)).trans ci;have e0:=(yQ.cell (cell_lt e0)).trans e0;have p0:=(hP.below Hr).c0;have p1:=(hP.below Hr).c1;have fK:=hS.below Hr;have s1:=fK.cells.2.1;rw [JD.out] at s1;have SD:∀ w',af wa w'->w'.cell? ⟨w.heap.size + 1,1,none⟩=some (.int .i64 (dp:Int)):=λw' h=>(h.cell (cell_lt s1)).trans s1;have jL:∀ w',af wa w'->gq w' x.A x.n x.l:=λw' h=>aX.below ((hx.below (bel hb8 Hr)).net) h;obtain ⟨UC,kk4⟩:=zJ (a:=i) (b:=vn) (by omega);have kk5:(0:Int)<=(d:Int):=by omega
   have kk6:(d:Int) < (x.m:Int):=wF.out;have ahp:(0:Int)<=(dn:Int):=by omega
   have anh:(0:Int)<=(dp:Int):=by omega
   rw [wI.out];have p_:∀ w',af wa w'->(λw':World=>af wa w'/\w'.cell? ⟨w.heap.size,0,none⟩=some (.int .i64 x.nd)/\w'.cell? ⟨w.heap.size,1,none⟩=some (.slice x.A x.n x.c)/\w'.cell? ⟨w.heap.size + 1 + 1,1,none⟩=some (.slice (some jJ) vn vc)/\w'.cell? ⟨wr.heap.size,1,none⟩=some (.int .i64 (i:Int))/\w'.cell? (jJ.add i)=some (.int .i64 (d:Int))/\w'.cell? (uT.add (d * 7))=some (.int .i64 (dn:Int))/\w'.cell? ⟨w.heap.size + 1,1,none⟩=some (.int .i64 (dp:Int))) w':=λw' h=>⟨h,(h.cell (cell_lt p0)).trans p0,(h.cell (cell_lt p1)).trans p1,(h.cell (cell_lt f1)).trans f1,(h.cell (cell_lt l1)).trans l1,(h.cell (cell_lt ci)).trans ci,(h.cell (cell_lt e0)).trans e0,(h.cell (cell_lt s1)).trans s1⟩;have aQ:=p_ _ (dK wa).drew;clear p0 p1 f1 l1 ci e0 s1 SD fK;refine wp_region_held_drew (S:=(λw':World=>af wa w'/\w'.cell? ⟨w.heap.size,0,none⟩=some (.int .i64 x.nd)/\w'.cell? ⟨w.heap.size,1,none⟩=some (.slice x.A x.n x.c)/\w'.cell? ⟨w.heap.size + 1 + 1,1,none⟩=some (.slice (some jJ) vn vc)/\w'.cell? ⟨wr.heap.size,1,none⟩=some (.int .i64 (i:Int))/\w'.cell? (jJ.add i)=some (.int .i64 (d:Int))/\w'.cell? (uT.add (d * 7))=some (.int .i64 (dn:Int))/\w'.cell? ⟨w.heap.size + 1,1,none⟩=some (.int .i64 (dp:Int)))) (by kernel_rfl) aQ (λhHeld=>?_);refine wpAnyH_take (i:=0) (oi:=?_) (v:=?_) ?_ (by kernel_rfl) (by kernel_rfl) (by kernel_rfl) ?_ ?_ (by assumption) ?_;rotate_left 2
   ·(simp only [List.getElem?_toArray,List.getElem?_cons_zero];rfl)
   rotate_left
   ·(refine Or.inl ⟨by rfl,?_⟩;intro w hSw;(try dsimp only at hSw);go_simp;(try with_reducible rfl))
   rotate_left
   ·exact λ_ _ _ h=>h
   try simp only [Act.put,List.setIfInBounds_toArray,List.set_cons_zero,List.set_cons_succ]
   refine wpAnyH_take (i:=1) (oi:=?_) (v:=?_) ?_ (by kernel_rfl) (by kernel_rfl) (by kernel_rfl) ?_ ?_ (by assumption) ?_;rotate_left 2
   ·(simp only [List.getElem?_toArray,List.getElem?_cons_succ,List.getElem?_cons_zero];rfl)
   rotate_left
   ·(refine Or.inl ⟨by rfl,?_⟩;intro w hSw;(try dsimp only at hSw);go_simp;(try with_reducible rfl))
   rotate_left
   ·exact λ_ _ _ h=>h
   try simp only [Act.put,List.setIfInBounds_toArray,List.set_cons_zero,List.set_cons_succ]
   refine wpAnyH_take (i:=2) (oi:=?_) (v:=?_) ?_ (by kernel_rfl) (by kernel_rfl) (by kernel_rfl) ?_ ?_ (by assumption) ?_;rotate_left 2
   ·(simp only [List.getElem?_toArray,List.getElem?_cons_succ,List.getElem?_cons_zero];rfl)
   rotate_left
   ·(refine Or.inl ⟨by rfl,?_⟩;intro w hSw;(try dsimp only at hSw);go_simp;(try with_reducible rfl))
   rotate_left
   ·exact λ_ _ _ h=>h
   try simp only [Act.put,List.setIfInBounds_toArray,List.set_cons_zero,List.set_cons_succ]
   refine wpAnyH_take (i:=3) (oi:=?_) (v:=?_) ?_ (by kernel_rfl) (by kernel_rfl) (by kernel_rfl) ?_ ?_ (by assumption) ?_;rotate_left 2
   ·(simp only [List.getElem?_toArray,List.getElem?_cons_succ,List.getElem?_cons_zero];rfl)
   rotate_left
   ·(refine Or.inl ⟨by rfl,?_⟩;intro w hSw;(try dsimp only at hSw);go_simp;(try with_reducible rfl))
   rotate_left
   ·exact λ_ _ _ h=>h
   try simp only [Act.put,List.setIfInBounds_toArray,List.set_cons_zero,List.set_cons_succ]
   refine wpAnyH_take (i:=4) (oi:=?_) (v:=?_) ?_ (by kernel_rfl) (by kernel_rfl) (by kernel_rfl) ?_ ?_ (by assumption) ?_;rotate_left 2
   ·(simp only [List.getElem?_toArray,List.getElem?_cons_succ,List.getElem?_cons_zero];rfl)
   rotate_left
   ·(refine Or.inl ⟨by rfl,?_⟩;intro w hSw;(try dsimp only at hSw);go_simp;(try with_reducible rfl))
   rotate_left
   ·exact λ_ _ _ h=>h
   try simp only [Act.put,List.setIfInBounds_toArray,List.set_cons_zero,List.set_cons_succ]
   refine wpAnyH_take (i:=5) (oi:=?_) (v:=?_) ?_ (by kernel_rfl) (by kernel_rfl) (by kernel_rfl) ?_ ?_ (by assumption) ?_;rotate_left 2
   ·(simp only [List.getElem?_toArray,List.getElem?_cons_succ,List.getElem?_cons_zero];rfl)
   rotate_left
   ·(refine Or.inl ⟨by rfl,?_⟩;intro w hSw;(try dsimp only at hSw);go_simp;(try with_reducible rfl))
   rotate_left
   ·exact λ_ _ _ h=>h
   try simp only [Act.put,List.setIfInBounds_toArray,List.set_cons_zero,List.set_cons_succ]
   refine wpAnyH_take (i:=6) (oi:=?_) (v:=?_) ?_ (by kernel_rfl) (by kernel_rfl) (by kernel_rfl) ?_ ?_ (by assumption) ?_;rotate_left 2
   ·(simp only [List.getElem?_toArray,List.getElem?_cons_succ,List.getElem?_cons_zero];rfl)
   rotate_left
   ·(refine Or.inl ⟨by rfl,?_⟩;intro w hSw;(try dsimp only at hSw);go_simp;(try with_reducible rfl))
   rotate_left
   ·exact λ_ _ _ h=>h
   try simp only [Act.put,List.setIfInBounds_toArray,List.set_cons_zero,List.set_cons_succ]
   refine wpAnyH_take (i:=7) (oi:=?_) (v:=?_) ?_ (by kernel_rfl) (by kernel_rfl) (by kernel_rfl) ?_ ?_ (by assumption) ?_;rotate_left 2
   ·(simp only [List.getElem?_toArray,List.getElem?_cons_succ,List.getElem?_cons_zero];rfl)
   rotate_left
   ·(refine Or.inl ⟨by rfl,?_⟩;intro w hSw;(try dsimp only at hSw);go_simp;(try with_reducible rfl))
   rotate_left
   ·exact λ_ _ _ h=>h
   try simp only [Act.put,List.setIfInBounds_toArray,List.set_cons_zero,List.set_cons_succ]
   refine wpAnyH_take (i:=8) (oi:=?_) (v:=?_) ?_ (by kernel_rfl) (by kernel_rfl) (by kernel_rfl) ?_ ?_ (by assumption) ?_;rotate_left 2
   ·(simp only [List.getElem?_toArray,List.getElem?_cons_succ,List.getElem?_cons_zero];rfl)
   rotate_left
   ·(refine Or.inl ⟨by rfl,?_⟩;intro w hSw;(try dsimp only at hSw);go_simp;(try with_reducible rfl))
   rotate_left
   ·exact λ_ _ _ h=>h
   try simp only [Act.put,List.setIfInBounds_toArray,List.set_cons_zero,List.set_cons_succ]
   refine wpAnyH_take (i:=9) (oi:=?_) (v:=?_) ?_ (by kernel_rfl) (by kernel_rfl) (by kernel_rfl) ?_ ?_ (by assumption) ?_;rotate_left 2
   ·(simp only [List.getElem?_toArray,List.getElem?_cons_succ,List.getElem?_cons_zero];rfl)
   rotate_left
   ·(refine Or.inl ⟨by rfl,?_⟩;intro w hSw;(try dsimp only at hSw);go_simp;(try with_reducible rfl))
   rotate_left
   ·exact λ_ _ _ h=>h
   try simp only [Act.put,List.setIfInBounds_toArray,List.set_cons_zero,List.set_cons_succ]
   refine wpAnyH_take (i:=10) (oi:=?_) (v:=?_) ?_ (by kernel_rfl) (by kernel_rfl) (by kernel_rfl) ?_ ?_ (by assumption) ?_;rotate_left 2
   ·(simp only [List.getElem?_toArray,List.getElem?_cons_succ,List.getElem?_cons_zero];rfl)
   rotate_left
   ·(refine Or.inl ⟨by rfl,?_⟩;intro w hSw;(try dsimp only at hSw);go_simp;(try with_reducible rfl))
   rotate_left
   ·exact λ_ _ _ h=>h
   try simp only [Act.put,List.setIfInBounds_toArray,List.set_cons_zero,List.set_cons_succ]
   refine wpAnyH_take (i:=11) (oi:=?_) (v:=?_) ?_ (by kernel_rfl) (by kernel_rfl) (by kernel_rfl) ?_ ?_ (by assumption) ?_;rotate_left 2
   ·(simp only [List.getElem?_toArray,List.getElem?_cons_succ,List.getElem?_cons_zero];rfl)
   rotate_left
   ·(refine Or.inl ⟨by rfl,?_⟩;intro w hSw;(try dsimp only at hSw);go_simp;(try with_reducible rfl))
   rotate_left
   ·exact λ_ _ _ h=>h
   try simp only [Act.put,List.setIfInBounds_toArray,List.set_cons_zero,List.set_cons_succ]
   refine wpAnyH_take (i:=13) (oi:=?_) (v:=?_) ?_ (by kernel_rfl) (by kernel_rfl) (by kernel_rfl) ?_ ?_ (by assumption) ?_;rotate_left 2
   ·(simp only [List.getElem?_toArray,List.getElem?_cons_succ,List.getElem?_cons_zero];rfl)
   rotate_left
   ·(refine Or.inl ⟨by rfl,?_⟩;intro w hSw;(try dsimp only at hSw);go_simp;(try with_reducible rfl))
   rotate_left
   ·exact λ_ _ _ h=>h
   try simp only [Act.put,List.setIfInBounds_toArray,List.set_cons_zero,List.set_cons_succ]
   refine wpAnyH_take (i:=14) (oi:=?_) (v:=?_) ?_ (by kernel_rfl) (by kernel_rfl) (by kernel_rfl) ?_ ?_ (by assumption) ?_;rotate_left 2
   ·(simp only [List.getElem?_toArray,List.getElem?_cons_succ,List.getElem?_cons_zero];rfl)
   rotate_left
   ·(refine Or.inl ⟨by rfl,?_⟩;intro w hSw;(try dsimp only at hSw);go_simp;(try with_reducible rfl))
   rotate_left
   ·exact λ_ _ _ h=>h
   try simp only [Act.put,List.setIfInBounds_toArray,List.set_cons_zero,List.set_cons_succ]
   refine wpAnyH_ready (rs:=[12]) (by kernel_rfl) (by simp) ?_;refine AllReadyH.cons (o:=?_) ?_ (λK hK=>?_) AllReadyH.nil;rotate_left
   ·(simp only [List.getElem?_toArray,List.getElem?_cons_succ,List.getElem?_cons_zero];rfl)
   go_simp;refine (Om x.nd x.A x.n x.c x.l (dn:Int) wt _ (jL _ ai.drew) hx.b1).mono ?_;rintro e wy ⟨⟨TA,yn,yc,rfl,BO⟩,yS⟩;obtain ⟨Ko,rfl,cy,j4⟩:=VS BO iq.out ⟨ahp,Ti⟩ ahr;rw [<-HY.out] at cy;have Qs:af wa wy:=bel ai.drew yS;have S1:=p_ _ Qs;try dsimp only
   refine hK.out _ _ S1 (λhHeld=>?_);clear hK K;try simp only [Act.put,List.setIfInBounds_toArray,List.set_cons_zero,List.set_cons_succ]
   refine wpAnyH_take (i:=15) (oi:=?_) (v:=?_) ?_ (by kernel_rfl) (by kernel_rfl) (by kernel_rfl) ?_ ?_ (by assumption) ?_;rotate_left 2
   ·(simp only [List.getElem?_toArray,List.getElem?_cons_succ,List.getElem?_cons_zero];rfl)
   rotate_left
   ·(refine Or.inl ⟨by rfl,?_⟩;intro w hSw;(try dsimp only at hSw);go_simp;(try with_reducible rfl))
   rotate_left
   ·exact λ_ _ _ h=>h
   try simp only [Act.put,List.setIfInBounds_toArray,List.set_cons_zero,List.set_cons_succ]
   refine wpAnyH_ready (rs:=[16]) (by kernel_rfl) (by simp) ?_;refine AllReadyH.cons (o:=?_) ?_ (λK hK=>?_) AllReadyH.nil;rotate_left
   ·(simp only [List.getElem?_toArray,List.getElem?_cons_succ,List.getElem?_cons_zero];rfl)
   go_simp;try dsimp only
   refine hK.out _ _ S1 (λhHeld=>?_);clear hK K;try simp only [Act.put,List.setIfInBounds_toArray,List.set_cons_zero,List.set_cons_succ]
   refine wpAnyH_take (i:=17) (oi:=?_) (v:=?_) ?_ (by kernel_rfl) (by kernel_rfl) (by kernel_rfl) ?_ ?_ (by assumption) ?_;rotate_left 2
   ·(simp only [List.getElem?_toArray,List.getElem?_cons_succ,List.getElem?_cons_zero];rfl)
   rotate_left
   ·(refine Or.inl ⟨by rfl,?_⟩;intro w hSw;(try dsimp only at hSw);go_simp;(try with_reducible rfl))
   rotate_left
   ·exact λ_ _ _ h=>h
   try simp only [Act.put,List.setIfInBounds_toArray,List.set_cons_zero,List.set_cons_succ]
   refine wpAnyH_done (by kernel_rfl) ?_ _;clear aQ S1 p_ jL cy BO yS j4;have Z_:af w8 wy:=bel Hr Qs;have ahl:=bel hb8 Z_;have l2:=ah (au Qs ZQ) 2 _ rfl;have s3:=((hS.below Z_).cells).2.2.2.1;by_cases hy0:0<=y;rotate_left
   ·have g2:decide (0<=y)=false:=zI hy0;have HN:=zC (show K.blocks x.nd x.l x.s x.r v l=!((l.drop (k + 1)).any (K.opensAt x.nd x.l x.s x.r v al)) by
     have h1:(y != -1)=false:=by have:y=-1:=by omega
                                 simp [this]
     rw [wE.out,WE.out,h1];simp)
    go_wp2_with fail;rw [<-wI.out];go_roundw
    case rel=>(go_light;exact ⟨_,_,⟨k + 1,rfl,hlt,HN.out⟩,rfl,rfl,by go_num,rfl⟩)
    case measure=>(go_light;simp [intOf] <;> omega)
   have g2:decide (0<=y)=true:=zH hy0;have hsum:IntKind.i64.wrap (L + y)=L + y:=dh _ (by omega);have ahZ:wrap64 (L + y)=L + y:=by rw [<-IntWalk.i64_left];exact hsum
   have h1:(y != -1)=true:=by have:¬ y=-1:=by omega
                              simpa using this
   have WG:=zC (show K.opensAt x.nd x.l x.s x.r v al ⟨m,i,L⟩=decide (L + y<=x.s.end_) by rw [WE.out,h1];rfl);clear h1;by_cases hle:L + y<=x.s.end_
   ·have g3:decide (L + y<=x.s.end_)=true:=zH hle;have HN:=zC (show K.blocks x.nd x.l x.s x.r v l=false by rw [wE.out,WG.out,g3];rfl);go_wp2_with fail;go_ret;exact ⟨aK HN.out.symm,ahl⟩
   ·have g3:decide (L + y<=x.s.end_)=false:=zI hle;have HN:=zC (show K.blocks x.nd x.l x.s x.r v l=!((l.drop (k + 1)).any (K.opensAt x.nd x.l x.s x.r v al)) by rw [wE.out,WG.out,g3];rfl);go_wp2_with fail;clear hsum ahZ;rw [<-wI.out];go_roundw
    case rel=>(go_light;exact ⟨_,_,⟨k + 1,rfl,hlt,HN.out⟩,rfl,rfl,by go_num,rfl⟩)
    case measure=>(go_light;simp [intOf] <;> omega)
  ·have HN:=zC (show K.blocks x.nd x.l x.s x.r v l=true by rw [hbk.out,dF (by rw [<-hL.1];omega)];rfl);obtain ⟨UA,aa7⟩:=zL (a:=k) (b:=ln) (by omega);go_wp2_with fail;go_ret;exact ⟨aK HN.out.symm,hb⟩
def qX (w:World) (g:Nat) (l:ag):Prop:=∃ cur:Array Value,w.heap[g]? = some (.cells cur 3 (0,0))/\∀ (i:Nat) (x:Int),l[i]? = some x->cur[i]? = some (.int .i64 x)
theorem qX.cell {w:World} {g:Nat} {l:ag} (h:qX w g l) {i:Nat} {x:Int} (hx:l[i]? = some x):w.cell? ⟨g,i,none⟩=some (.int .i64 x):=by
 obtain ⟨cur,h1,h2⟩:=h;exact ah h1 i _ (h2 i x hx)
theorem qX.free {w:World} {g:Nat} {l:ag} (h:qX w g l) (i:Nat):w.frozen? ⟨g,i,none⟩=false:=by
 obtain ⟨cur,h1,-⟩:=h;exact b_ h1 i
theorem qX.set {w:World} {g:Nat} {l:ag} (h:qX w g l) {k:Nat} (hk:k < l.length) (x:Int):qX (w.setCell ⟨g,k,none⟩ (.int .i64 x)) g (l.set k x):=by
 obtain ⟨cur,h1,h2⟩:=h;refine ⟨_,di h1 k _,λi y hy=>?_⟩;have hkc:k < cur.size:=(l_.1 (h2 k _ (zF hk))).1;rw [List.getElem?_set] at hy;rw [Array.getElem?_setIfInBounds];by_cases e:k=i
 ·subst e;rw [if_pos rfl,if_pos hk] at hy;injection hy with hy;rw [if_pos rfl,if_pos hkc,hy]
 ·rw [if_neg e] at hy;rw [if_neg e];exact h2 i y hy
theorem qX.ints {w:World} {g:Nat} {l:ag} (h:qX w g l):Ints w (some ⟨g,0,none⟩) l.length l:=by
 obtain ⟨cur,h1,h2⟩:=h;refine ⟨rfl,by simp [intCells],λ_=>⟨_,rfl,λj u hu=>?_⟩⟩;rw [intCells,dG] at hu;obtain ⟨y,hy,rfl⟩:=Option.map_eq_some_iff.1 hu;rw [lN];exact ah h1 j _ (h2 j y hy)
theorem akW {w:World} {base n c:Nat} {A2:aj} {l:ag} (h:w.ownsRow base 3 1 (.slice A2 n c) n (intCells l)) (h0:0 < n):∃ g,A2=some ⟨g,0,none⟩/\base<=g/\qX w g l:=by
 obtain ⟨hl,⟨e,e2⟩ | ⟨g,cap,cur,e,hb,hh,hnc,-,hsz,ht⟩⟩:=h
 ·omega
 ·injection e with e1 e2 e3;refine ⟨g,e1,hb,cur,hh,λi x hx=>?_⟩;have hu:(intCells l)[i]? = some (.int .i64 x):=by rw [intCells,dG,hx];rfl
  rw [<-ht,List.getElem?_take] at hu;split at hu
  ·simpa using hu
  ·cases hu
theorem set_mid (a z:ag) (x y:Int):((a ++ [x]) ++ z).set a.length y=a ++ y :: z:=by
 rw [jb,List.set_append_right _ _ (zG _),Nat.sub_self];rfl
def aeL (w w':World) (p:Option (List Nat)) (e:Ending):Prop :=
 ((p=none/\e=.returned (.tuple #[.slice none 0 0,.bool false]))\/∃ d A n c,p=some d/\e=.returned (.tuple #[.slice A n c,.bool true])/\Ints w' A n (K.nat d)/\n<=c)/\af w w'
def K.low (d:List Nat) (n j:Nat):List Int:=K.nat (d.take j) ++ List.replicate (n - j) 0
theorem K.aiU {d:List Nat} {n i x:Nat} (h:d[i]? = some x):(K.low d n (i + 1))[i]? = some (x:Int):=by
 have hk:=(zE.1 h).1;unfold K.low K.nat;rw [nJ (by rw [bu,List.length_take];omega),dG,List.getElem?_take,if_pos (by omega),h];rfl
theorem K.aiV {d:List Nat} {n j:Nat} (hn:n=d.length) (hj:j<=n):(K.low d n j).length=n:=by
 unfold K.low K.nat;rw [cZ,bu,List.length_take,List.length_replicate];omega
theorem K.low_set {d:List Nat} {n i x:Nat} (h:d[i]? = some x) (y:Int):(K.low d n (i + 1)).set i y=K.nat (d.take i) ++ y :: List.replicate (n - (i + 1)) 0:=by
 have hk:=(zE.1 h).1;have hl:(K.nat (d.take i)).length=i:=by unfold K.nat;rw [bu,List.length_take];omega
 have:=set_mid (K.nat (d.take i)) (List.replicate (n - (i + 1)) 0) (x:Int) y;rw [hl] at this;rw [<-this];unfold K.low;rw [take_snoc h];unfold K.nat;rw [eG];rfl
theorem K.aiW {d:List Nat} {n i x:Nat} (h:d[i]? = some x) (hn:n=d.length):(K.low d n (i + 1)).set i 0=K.low d n i:=by
 have hk:=(zE.1 h).1;rw [K.low_set h,K.low];congr 1;rw [show n - i=(n - (i + 1)) + 1 by omega];rfl
theorem abH (A0:aj) (n c:Nat) (d:List Nat) (m:Nat) (w:World) (hl:Ints w A0 n (K.nat d)) (hn:n<=1000) (hd:∀ s ∈ d,s < m) (hm:m<=1000) :
  ay 71 #[.slice A0 n c,.int .i64 (m:Int)] w λe w'=>aeL w w' (A.next m d) e:=by
 have bM:=zC (show n=d.length by have:=hl.1;rw [this];exact bu _);obtain ⟨i0,hi,hz0,hz1,hz2⟩:=info_parts Tryz.info3;obtain ⟨w1,hw1⟩:=zB (w.alloc (.cells #[] 3));have b1:=aH hw1;have iK:w1.ownsRow w.heap.size 3 1 (.slice (some ⟨w.heap.size,0,none⟩) 0 0) 0 []:=by rw [hw1];exact uy (aA w (.cells #[] 3)) (zG _)
 have hrd:=(hl.below b1).2;have hsz:=b1.size;have hwr:IntKind.i64.wrap ((n:Int) - 1)=(n:Int) - 1:=dh _ (by omega);go_enter Tryz.func71,Tryz.ntmps71;go_wp2_with (first
  | (at_builtin;rw [<-hw1];refine nU rfl (.tmp 8) (.tmp 9) 48 rfl w.heap.size 3 i0 (.int .i64 0) 1 8 Tryz.underlying48 hi hz0 hz1 hz2 rfl (by decide) (.slice (some ⟨w.heap.size,0,none⟩) 0 0) 0 [] rfl iK A0 n c (intCells (K.nat d)) rfl hrd (qI _) (by simp only [maxLen];omega) (by omega) hsz ?_;intro v1 w2 hown2 hgrow2 _;rw [Nat.zero_add,List.nil_append] at hown2;obtain ⟨A2,c2,rfl,-,-⟩:=fP hown2;have hb2:=dY b1 hgrow2 (CQ (zG _)))
  | fail)
 have hc2:=Dc hown2;clear iK hrd hsz hw1 b1 hgrow2 hi hz0 hz1 hz2;go_loopw [7] (λv7 wr=>∃ (j:Nat) (z:Int),v7=.int .i64 z/\z=(j:Int) - 1/\j<=n/\(0 < n->∃ g,A2=some ⟨g,0,none⟩/\w.heap.size<=g/\qX wr g (K.low d n j))/\Hid (A.next m (d.drop j)=none)/\af w wr) (λv7 _=>(intOf v7 + 1).toNat)
 case atStart =>
  refine ⟨n,_,rfl,(by simp),zG _,λh0=>?_,(by show _=_;rw [dF (by rw [<-bM.out];exact zG _)];rfl),hb2⟩;obtain ⟨g,e1,e2,e3⟩:=akW hown2 h0;refine ⟨g,e1,e2,?_⟩;unfold K.low;rw [fD (by rw [<-bM.out];exact zG _),Nat.sub_self,List.replicate_zero,List.append_nil];exact e3
 case round =>
  clear hown2 hb2;obtain ⟨j,z,rfl,hz,hj,hrow,hnx,hbr⟩:=hrel;cases j with
  | zero =>
   have hzz:z=-1:=by omega
   subst hzz;have HX:=zC (show A.next m d=none by have:=hnx.out;rwa [List.drop_zero] at this);clear hz hrow;go_wp2_with fail;go_ret2
   exact ⟨.inl ⟨HX.out,rfl⟩,hbr⟩
  | succ i =>
   have hzz:z=(i:Int):=by omega
   subst hzz;obtain ⟨g,rfl,hg,hR⟩:=hrow (by omega);have hid:i < d.length:=by rw [<-bM.out];omega
   have hx:d[i]? = some d[i]:=zF hid;obtain ⟨x,hxe⟩:=zB (d[i]);rw [<-hxe] at hx;have hxm:x < m:=hd x (zD hx);have hcell:=hR.cell (K.aiU (n:=n) hx);have hfree:=hR.free i;have hlow:=K.aiV bM.out hj;obtain ⟨i0,i1⟩:=zJ (a:=i) (b:=n) (by omega);have hw1:IntKind.i64.wrap ((x:Int) + 1)=(x:Int) + 1:=dh _ (by omega);have hw2:IntKind.i64.wrap ((i:Int) - 1)=(i:Int) - 1:=dh _ (by omega);have hge:decide (0<=(i:Int))=true:=by simp
   have bH:=zC (A.abM d i hnx.out x hx);have HX:=zC hx;have HD:=zC (show d=d.take i ++ d.drop i from (List.take_append_drop i d).symm);have hB1:∀ u:Int,af w (wr.setCell ⟨g,i,none⟩ (.int .i64 u)):=λu=>hbr.setCell (p:=⟨g,i,none⟩) hg _;have hRs:∀ u:Int,qX (wr.setCell ⟨g,i,none⟩ (.int .i64 u)) g ((K.low d n (i + 1)).set i u):=λu=>hR.set (by rw [hlow];omega) u;clear hz hx hxe hid hR hlow;by_cases hlt:x + 1 < m
   ·have hd1:decide ((x:Int) + 1 < (m:Int))=true:=by simp;omega
    have HN:=zC (show A.next m d=some (d.take i ++ (x + 1) :: List.replicate (n - (i + 1)) 0) by
     have h9:=bH.out;rw [if_pos hlt,<-bM.out] at h9;rw [HD.out,A.abO _ _ _ h9,<-HD.out])
    have hI:=(hRs ((x:Int) + 1)).ints;rw [K.low_set HX.out] at hI;have hln:(K.nat (d.take i) ++ ((x:Int) + 1) :: List.replicate (n - (i + 1)) 0).length=n:=by
     have h8:=bM.out;unfold K.nat;rw [cZ,bu,List.length_take,dQ,List.length_replicate];omega
    rw [hln] at hI;have hI2:Ints (wr.setCell ⟨g,i,none⟩ (.int .i64 ((x:Int) + 1))) (some ⟨g,0,none⟩) n (K.nat (d.take i ++ (x + 1) :: List.replicate (n - (i + 1)) 0)):=by
     have e9:K.nat (d.take i ++ (x + 1) :: List.replicate (n - (i + 1)) 0)=K.nat (d.take i) ++ ((x:Int) + 1) :: List.replicate (n - (i + 1)) 0:=by
      unfold K.nat;rw [eG,List.map_cons,List.map_replicate];rfl
     rw [e9];exact hI
    have hbX:=hB1 ((x:Int) + 1);clear hI hln hlt hRs hB1 bH;go_wp2_with fail;go_ret2
    exact ⟨.inr ⟨_,_,_,_,HN.out,rfl,hI2,hc2⟩,hbX⟩
   ·have hd1:decide ((x:Int) + 1 < (m:Int))=false:=by simp;omega
    have HN:=zC (show A.next m (d.drop i)=none by rw [bH.out,if_neg hlt]);have hR0:=hRs 0;rw [K.aiW HX.out bM.out] at hR0;have hbX:=hB1 0;clear hlt hRs hB1 bH;go_wp2_with fail;go_roundw
    case rel=>(go_light;exact ⟨i,_,rfl,(by simp),by omega,λ_=>⟨g,rfl,hg,hR0⟩,HN.out,hbX⟩)
    case measure=>(go_light;simp [intOf])
def rW (m k:Nat) (v10 v11:Value) (w:World):Nat:=match v11 with
 | .bool true=>(m ^ k - A.val m ((N8 w v10).map Int.toNat)) + 1
 | _=>0
theorem amc (d:List Nat):(K.nat d).map Int.toNat=d:=by
 unfold K.nat;rw [List.map_map];conv=>rhs;rw [<-List.map_id d]
 congr 1
theorem NZ {w:World} {A0:aj} {n c m k:Nat} {d:List Nat} (h:Ints w A0 n (K.nat d)):rW m k (.slice A0 n c) (.bool true) w=(m ^ k - A.val m d) + 1:=by
 unfold rW;rw [acE h,amc]
namespace K
def vH (bl:List BV) (d:List Nat):Bool:=bl.any λb=>A.part b.v (A.share d b.sh.toNat 0)
theorem afy {bl:List BV} {m n:Nat} (hb:∀ b ∈ bl,0<=b.sh/\b.sh < (m:Int)):A.blocked (bl.map λb=>(b.sh.toNat,b.v)) m n 0 (List.replicate m [])=(A.exts m n).all (vH bl):=by
 rw [Bool.eq_iff_iff,A.KI n 0 _ (List.length_replicate ..),List.all_eq_true];have key:∀ d ∈ A.exts m n,A.hit (bl.map λb=>(b.sh.toNat,b.v)) (A.place (List.replicate m []) 0 d)=vH bl d:=λd hd=>by
  rw [A.acr hd];unfold A.hit vH;rw [List.any_map];have e:∀ b ∈ bl,((λb:Nat × List Int=>A.part b.2 ((((List.range m).map λs=>A.share d s 0)[b.1]?).getD [])) ∘ λb:BV=>(b.sh.toNat,b.v)) b=A.part b.v (A.share d b.sh.toNat 0):=λb hb'=>by
   have h1:=hb b hb';show A.part b.v ((((List.range m).map λs=>A.share d s 0)[b.sh.toNat]?).getD [])=_;rw [dG,List.getElem?_range (by omega)];rfl
  rw [Bool.eq_iff_iff,List.any_eq_true,List.any_eq_true];exact ⟨λ⟨b,h1,h2⟩=>⟨b,h1,by rw [<-e b h1];exact h2⟩,λ⟨b,h1,h2⟩=>⟨b,h1,by rw [e b h1];exact h2⟩⟩
 exact ⟨λh d hd=>by rw [<-key d hd];exact h d hd,λh d hd=>by rw [key d hd];exact h d hd⟩
theorem agi {n:Nat} (H:List Nat->Bool) (h:H [] = false):(A.exts 0 n).all H=decide (0 < n):=by
 cases n with
 | zero=>simp [A.exts,h]
 | succ n =>
  have:A.exts 0 (n + 1)=[]:=by simp [A.exts]
  rw [this];simp
end K
theorem amx {w:World} {V:aj} {vn N:Nat} {v:ag} (h:Ints w V vn v) (hv:v.length<=N):vn<=N:=by rw [h.1];exact hv
theorem Yx {α:Type} {p:α->Bool} {l:List α} {k:Nat} {x:α} (h:l[k]? = some x):(l.take (k + 1)).any p=((l.take k).any p || p x):=by
 rw [take_snoc h,List.any_append];simp
theorem ak0 (x:Cs) (BA:aj) (bn bc:Nat) (bl:List BV) (w:World) (hx:eu w x) (hB:iZ w BA bn bl) (hF:Ak bn bl) :
  ay 29 #[.agg #[.int .i64 x.nd,.slice x.A x.n x.c],.slice x.SA x.sn x.sc,.slice x.B x.m x.d,.slice BA bn bc] w (bg w (K.refutes x.nd x.l x.ss x.r (bl.map BV.pr))):=by
 obtain ⟨w0,hw0⟩:=zB (w.alloc (.cells #[.int .i64 x.nd,.slice x.A x.n x.c] 24));have b0:=aH hw0;obtain ⟨G0,hG0⟩:=zB w.heap.size;have hN:Net w0 G0 x.nd x.A x.n x.c:=by rw [hw0,hG0];exact Net.new w x.nd x.A x.n x.c
 have p0:=hN.c0;have p1:=hN.c1;obtain ⟨R,hR⟩:=zB (K.refutes x.nd x.l x.ss x.r (bl.map BV.pr));have HR:=zC hR;rw [<-hR];clear hR;have jP:=zC hB.1.1;obtain ⟨vC,hbs⟩:=hF;go_enter Tryz.func29,Tryz.ntmps29;go_wp2_with fail;rw [<-hw0,<-hG0];clear hw0 hG0;refine (Vx x _ (hx.below b0)).mono ?_;obtain ⟨ce,hce⟩:=zB (K.bK x.nd x.l x.ss x.r);rw [<-hce];rintro e w1 ⟨rfl,b1⟩;have hN1:=hN.below b1;have hb1:=bel b0 b1;clear p0 p1 b0 b1 hN;by_cases hz:ce=0;rotate_left
 ·have HX:=zC (show R=false by rw [HR.out];exact K.acM (by rw [<-hce];exact hz));have hd:(ce != 0)=true:=by simp [bne,hz]
  have hd2:decide (ce=0)=false:=by simp [hz]
  clear hce hz;go_wp2_with fail;go_ret;exact ⟨by rw [HX.out];rfl,hb1⟩
 subst hz;have aY:=zC hce.symm;clear hce;have eF:=zC hx.shifts.1.1;have aS:=zC hx.bf.1;have o6:x.m<=6:=by rw [aS.out];exact (K.kT aY.out).2.2.2.2
 have uw:x.sn<=4:=by rw [eF.out];exact (K.kT aY.out).2.1
 by_cases Ey:bn<=200;rotate_left
 ·have hd1:decide ((200:Int) < (bn:Int))=true:=by simp;omega
  have hd2:decide (200 < bn)=true:=by simp;omega
  have HX:=zC (show R=false by rw [HR.out];exact K.acO (by rw [bu,<-jP.out];exact Ey));clear Ey;go_wp2_with fail;go_ret;exact ⟨by rw [HX.out];rfl,hb1⟩
 have hd1:decide ((200:Int) < (bn:Int))=false:=by simp;omega
 have hd2:decide (200 < bn)=false:=by simp;omega
 obtain ⟨P,hP⟩:=zB (A.blocked (bl.map λb=>(b.sh.toNat,b.v)) x.sn x.m 0 (List.replicate x.sn []));have qU:=zC (show R=(((bl.map BV.pr).drop 0).all (K.kS x.nd x.l x.ss x.r) && P) by
  rw [HR.out,K.acN aY.out (by rw [bu,<-jP.out];exact Ey),hP,eF.out,aS.out,List.map_map];rfl)
 have HP:=zC hP;obtain ⟨L,hL⟩:=zB (bl.map BV.pr);rw [<-hL] at qU;have HL:=zC hL;clear hP hL;go_wp2_with fail;clear hd1 hd2;go_loopw [9] (λv9 wr=>∃ k:Nat,v9=.int .i64 k/\k<=bn/\af w1 wr/\Hid (R=((L.drop k).all (K.kS x.nd x.l x.ss x.r) && P))/\Hid (∀ (j:Nat) (b:BV),j < k->bl[j]? = some b->0<=b.sh/\b.sh < (x.sn:Int))) (λv9 _=>bn - (intOf v9).toNat)
 case atStart=>exact ⟨0,rfl,aW _,ai,qU.out,λj b h=>absurd h (by omega)⟩
 case round =>
  obtain ⟨k,rfl,hk,hbr,hrr,hrg⟩:=hrel;by_cases hlt:k < bn
  ·obtain ⟨ad,y,m_,hy,⟨hI1,hI2⟩,c0,c1,c2⟩:=(hB.below (bel hb1 hbr)).at_ hlt;obtain ⟨hv1,hv2,hv3⟩:=hbs y (zD hy);have hLk:L[k]? = some y.pr:=by rw [HL.out,dG,hy];rfl
   have HDR:=zC (show R=((K.kS x.nd x.l x.ss x.r y.pr && (L.drop (k + 1)).all (K.kS x.nd x.l x.ss x.r)) && P) by rw [hrr.out,K.XE hLk]);have HY:=zC hy;obtain ⟨k0,k1⟩:=zJ (a:=k) (b:=bn) (by omega);have zT:=(hx.below hb1).below hbr;have BJ:=hN1.below hbr;clear hy hLk hrr;rw [m_];go_upto_region 7 with fail;by_cases hneg:y.sh < 0
   ·have HX:=zC (show R=false by rw [HDR.out,K.U1 (b:=y.pr) (.inl hneg)];rfl);have hd1:decide (y.sh < 0)=true:=zH hneg;clear hneg c0 c1 c2;go_wp2_with fail;go_ret;exact ⟨by rw [HX.out];rfl,bel hb1 hbr⟩
   have hd1:decide (y.sh < 0)=false:=zI hneg;by_cases hbig:(x.sn:Int)<=y.sh
   ·have HX:=zC (show R=false by rw [HDR.out,K.U1 (b:=y.pr) (.inr (by rw [<-eF.out];exact hbig))];rfl);have hd2:decide ((x.sn:Int)<=y.sh)=true:=zH hbig;clear hneg hbig c0 c1 c2;go_wp2_with fail;go_ret;exact ⟨by rw [HX.out];rfl,bel hb1 hbr⟩
   have hd2:decide ((x.sn:Int)<=y.sh)=false:=zI hbig;obtain ⟨s,hs⟩:∃ s:Nat,y.sh=(s:Int):=⟨y.sh.toNat,by omega⟩;have hsn:s < x.sn:=by omega
   obtain ⟨bP,sS,jA,hsS,tN,s0,s1,s2,s3,s4,s5⟩:=zT.shifts.at_ hsn;have FN:=zC (K.abW (nd:=x.nd) (l:=x.l) (r:=x.r) (b:=y.pr) (show 0<=y.sh by omega) (show x.ss[y.sh.toNat]? = some sS by rw [hs];exact hsS));have hsm:=zD hsS;have FQ:=zC (show ∀ (j:Nat) (b:BV),j < k + 1->bl[j]? = some b->0<=b.sh/\b.sh < (x.sn:Int) from λj b hj hb=>by
    by_cases e:j=k
    ·rw [e,HY.out] at hb;injection hb with hb;rw [<-hb,hs];omega
    ·exact hrg.out j b (by omega) hb)
   have ku:=zC hs;have q0:=ak.cell c0;have q1:=ak.cell c1;have q2:=ak.cell c2;have p0:=ak.cell BJ.c0;have p1:=ak.cell BJ.c1;have r0:=ak.cell s0;have r1:=ak.cell s1;have r2:=ak.cell s2;have r3:=ak.cell s3;have r4:=ak.cell s4;have r5:=ak.cell s5;obtain ⟨cb,hcb⟩:=zB (K.blocks x.nd x.l sS x.r y.v y.lb);have CT:∀ i:ak wr,ay 90 #[.agg #[.int .i64 x.nd,.slice x.A x.n x.c],fG sS,.slice x.B x.m x.d,.agg #[.int .i64 y.sh,.slice y.V y.vn y.vc,.slice y.LA y.ln y.lc]] i.val (bg i.val cb):=λi=>by
    rw [hcb];exact afD (x.one sS) y.sh y.V y.vn y.vc y.v y.LA y.ln y.lc y.lb i.val ((zT.below i.property).case hsm) (hI1.below i.property) hv2 (aX.below hI2 i.property) hv3
   have sJ:=zC (show K.kS x.nd x.l x.ss x.r y.pr=cb by rw [FN.out,hcb];rfl);obtain ⟨IK,IL⟩:=zJ (a:=s) (b:=x.sn) (by omega);have kd1:decide ((s:Int) < 0)=false:=by simp
   obtain ⟨xM,kd3⟩:=zN (a:=x.sn) (b:=s) (by omega);rw [ku.out] at q0 CT hd1 hd2 ⊢;rw [jA];have sO:=zC jA;clear hs hsS hneg hbig hrg hcb FN jA s0 s1 s2 s3 s4 s5 c0 c1 c2 tN;go_upto_region 9 with fail;refine fV (by kernel_rfl) (by kernel_rfl) ?_;repeat (go_big_quiet_step ((go_at_call 90;exact ak.calls (CT _))))
   refine wpQuiet_nil ?_;rintro w4 ⟨⟨w4,b4⟩,rfl⟩;rw [<-sO.out];have hb4:=bel hbr b4;clear q0 q1 q2 p0 p1 r0 r1 r2 r3 r4 r5 CT hI1 hI2 b4 hbr hd1 hd2;cases cb
   ·have HX:=zC (show R=false by rw [HDR.out,sJ.out];rfl);go_wp2_with fail;go_ret;exact ⟨by rw [HX.out];rfl,bel hb1 hb4⟩
   ·have bH:=zC (show R=((L.drop (k + 1)).all (K.kS x.nd x.l x.ss x.r) && P) by rw [HDR.out,sJ.out,Bool.true_and]);go_wp2_with fail;go_roundw
    case rel=>(go_light;exact ⟨k + 1,by go_num,hlt,hb4,bH.out,FQ.out⟩)
    case measure=>(go_light;simp [intOf];omega)
  ·have Dy:=zC (show R=P by rw [hrr.out,dF (by rw [HL.out,bu,<-jP.out];omega)];rfl);have hok:∀ b ∈ bl,0<=b.sh/\b.sh < (x.sn:Int):=λb hb=>by
    obtain ⟨j,hj,e⟩:=List.getElem_of_mem hb;exact hrg.out j b (by have:=jP.out;omega) (by rw [zF hj,e])
   have HE:=zC (show R=(A.exts x.sn x.m).all (K.vH bl) by rw [Dy.out,HP.out];exact K.afy hok);have WC:=zC hok;obtain ⟨hd,hd2⟩:=zL (a:=k) (b:=bn) (by omega);clear hrr hrg hok Dy;by_cases h3:0 < x.sn;rotate_left
   ·have d5:((x.sn:Int) == 0)=true:=by simp;omega
    have d6:decide ((x.sn:Int)=0)=true:=by simp;omega
    have d7:x.sn=0:=by omega
    have hX:R=decide (0 < x.m):=by
     rw [HE.out,d7];refine K.agi _ ?_;have:bl=[]:=by
      cases hbl:bl with
      | nil=>rfl
      | cons b l =>
       have:=WC.out b (by rw [hbl];exact dJ ..);omega
     rw [this];rfl
    have HX:=zC hX;have ji:=bel hb1 hbr;clear hX h3 d7 hlt hk;by_cases hm0:0 < x.m
    ·have d8:decide ((0:Int) < (x.m:Int))=true:=by simp;omega
     have d9:decide (0 < x.m)=true:=by simp;omega
     have uO:=zC (HX.out.trans d9);clear hm0;go_wp2_with fail;go_ret;exact ⟨by rw [uO.out];rfl,ji⟩
    ·have d8:decide ((0:Int) < (x.m:Int))=false:=by simp;omega
     have d9:decide (0 < x.m)=false:=by simp;omega
     have uO:=zC (HX.out.trans d9);clear hm0;go_wp2_with fail;go_ret;exact ⟨by rw [uO.out];rfl,ji⟩
   have d5:((x.sn:Int) == 0)=false:=by simp;omega
   have d6:decide ((x.sn:Int)=0)=false:=by simp;omega
   obtain ⟨h,hh⟩:=zB wr.heap.size;obtain ⟨w5,hw5⟩:=zB (wr.alloc (.cells (intCells (List.replicate x.m 0)).toArray 3));have bJ:=aH hw5;have g_:Ints w5 (some ⟨h,0,none⟩) x.m (K.nat (List.replicate x.m 0)):=by
    have h9:eU w5 h (List.replicate x.m 0):=by rw [hw5,hh];exact aA _ _
    have h8:=h9.ints;rw [List.length_replicate] at h8;unfold K.nat;rw [List.map_replicate];exact h8
   have hmk:=CX x.m (by omega);have hb5:=bel hb1 (bel hbr bJ);clear hlt hk;go_wp2_with fail;rw [<-hw5,<-hh];clear hw5 hh hmk bJ hbr hb1 d5 d6 hd hd2;have H8:=A.YE h3 x.m;go_loopw [11,12] (λv11 v12 wr=>af w5 wr/\((v12=.bool false/\Hid (∀ e ∈ A.exts x.sn x.m,K.vH bl e=true))\/∃ (j:Nat) (d:List Nat) (LA:aj) (ln lc:Nat),v12=.bool true/\v11=.slice LA ln lc/\Ints wr LA ln (K.nat d)/\Hid ((A.exts x.sn x.m)[j]? = some d)/\Hid (∀ e ∈ (A.exts x.sn x.m).take j,K.vH bl e=true))) (λv11 v12 wr=>rW x.sn x.m v11 v12 wr)
   case atStart=>exact ⟨ai,.inr ⟨0,_,_,_,_,rfl,rfl,g_,H8,λe he=>(by cases he)⟩⟩
   case round =>
    clear g_ H8;obtain ⟨hbr,(⟨rfl,hno⟩ | ⟨j,d,LA,ln,lc,rfl,rfl,hI,hj,hbef⟩)⟩:=hrel
    ·have HX:=zC (show R=true by rw [HE.out,List.all_eq_true];exact hno.out);go_wp2_with fail;go_ret;exact ⟨by rw [HX.out];rfl,bel hb5 hbr⟩
    ·obtain ⟨wo,hwo⟩:=zB wr;subst hwo;obtain ⟨hdl,hdm⟩:=A.rV.1 (zD hj.out);have hln:ln=x.m:=by rw [hI.1];unfold K.nat;rw [bu];exact hdl
     have bM:=zC hln;have yz:=zC hdl;have wF:=zC hdm;have Ic:ln<=1000:=by omega
     have aho:d.length<=1000:=by omega
     have FU:=zC (NZ (c:=lc) (m:=x.sn) (k:=x.m) hI);have hb6:=bel hb5 hbr;have hBr:=hB.below hb6;clear hdl hdm hln;go_wp2_with fail;go_loopw [13,14] (λv13 v14 wi=>∃ i:Nat,v14=.int .i64 i/\i<=bn/\v13=.bool ((bl.take i).any λb=>A.part b.v (A.share d b.sh.toNat 0))/\af wo wi) (λ_ v14 _=>bn - (intOf v14).toNat)
     case atStart=>exact ⟨0,rfl,aW _,rfl,ai⟩
     case round =>
      obtain ⟨i,rfl,hi,rfl,hbi⟩:=hrel;have hbw:=bel hbr hbi;by_cases hlt:i < bn
      ·obtain ⟨ad,b,m_,Em,⟨hIv,-⟩,c0,c1,c2⟩:=(hBr.below hbi).at_ hlt;obtain ⟨s,hs⟩:∃ s:Nat,b.sh=(s:Int):=⟨b.sh.toNat,by have:=WC.out b (zD Em);omega⟩;have hvn:=(hbs b (zD Em)).2.1;have bH:=zC (Yx (p:=λb=>A.part b.v (A.share d b.sh.toNat 0)) Em);obtain ⟨z,hz⟩:=zB ((bl.take i).any λb=>A.part b.v (A.share d b.sh.toNat 0));rw [<-hz] at bH ⊢;obtain ⟨z2,hz2⟩:=zB (A.part b.v (A.share d s 0));have HZ2:=zC (show A.part b.v (A.share d b.sh.toNat 0)=z2 by rw [hz2,hs];rfl);have HZ3:=zC hz2.symm;obtain ⟨i0,i1⟩:=zJ (a:=i) (b:=bn) (by omega);have hki:(i + 1)<=bn:=hlt;rw [hs] at c0;clear hz hz2 hs Em c2 hi;rw [m_];clear m_;cases z
       ·have HQ:=zC (show ((bl.take (i + 1)).any λb=>A.part b.v (A.share d b.sh.toNat 0))=z2 by rw [bH.out,HZ2.out,Bool.false_or]);have p_:∀ w',af wr w'->(λw':World=>w'.cell? (ad.add (i * 3))=some (.int .i64 (s:Int))/\w'.cell? ⟨(ad.add (i * 3)).block,(ad.add (i * 3)).off + 1,none⟩=some (.slice b.V b.vn b.vc)) w':=λw' h=>⟨(h.cell (cell_lt c0)).trans c0,(h.cell (cell_lt c1)).trans c1⟩;have hR0:af wr wr:=ai;have LG:=hR0.drew;have S0:=p_ _ hR0;have aQ:=p_ _ LG;have hIi:=hI.below hbi;clear c0 c1 bH HZ2;go_upto_region 21 with fail
        go_region_held3 (λw':World=>w'.cell? (ad.add (i * 3))=some (.int .i64 (s:Int))/\w'.cell? ⟨(ad.add (i * 3)).block,(ad.add (i * 3)).off + 1,none⟩=some (.slice b.V b.vn b.vc))
         (with_reducible first | exact S2 | exact S1 | exact aQ | exact S0 | fail)
         (first
          | (go_at_call 73;refine (adU LA ln lc d s _ (hIi.below LG) Ic).mono ?_;rintro e wd ⟨⟨V,vn,vc,rfl,t_,jV⟩,bd⟩;have pV:=bel LG bd;have S1:=p_ _ pV;have hvl:=amx t_ (aN (A.VG s d 0) aho))
          | (go_at_call 80;refine (adm b.V b.vn b.vc b.v V vn vc _ _ ((hIv.below pV)) hvn t_ (by omega)).mono ?_;rintro e we ⟨rfl,be⟩;rw [HZ3.out];have be2:=bel pV be;have S2:=p_ _ be2)
          | fail)
        have hbe:=bel hbi be2;clear S0 aQ S1 S2 p_ hR0 LG;go_wp2_with fail;go_roundw
        case rel=>(go_light;exact ⟨i + 1,by go_num,hki,by rw [HQ.out],hbe⟩)
        case measure=>(go_light;simp [intOf];omega)
       ·have HQ:=zC (show ((bl.take (i + 1)).any λb=>A.part b.v (A.share d b.sh.toNat 0))=true by rw [bH.out,Bool.true_or]);clear c0 c1 bH HZ2;go_upto_region 21 with fail;refine fV (by kernel_rfl) (by kernel_rfl) ?_;repeat (go_big_quiet_step (fail))
        refine wpQuiet_nil ?_;rintro w4 ⟨⟨w4,b4⟩,rfl⟩;have hbe:=bel hbi b4;go_wp2_with fail;go_roundw
        case rel=>(go_light;exact ⟨i + 1,by go_num,hki,by rw [HQ.out],hbe⟩)
        case measure=>(go_light;simp [intOf];omega)
      ·have hall:(bl.take i).any (λb=>A.part b.v (A.share d b.sh.toNat 0))=K.vH bl d:=by rw [fD (by have:=jP.out;omega)];rfl
       rw [hall];obtain ⟨hd,hd2⟩:=zL (a:=i) (b:=bn) (by omega);obtain ⟨z,hz⟩:=zB (K.vH bl d);have HZ:=zC hz;rw [<-hz];have dS:=hI.below hbi;have CN:=abH LA ln lc d x.sn wr dS Ic wF.out (by omega);have HEX:=zC (A.abN h3 hj.out);obtain ⟨nx,hnx⟩:=zB (A.next x.sn d);rw [<-hnx] at CN HEX;have bH:=zC hnx;clear hall hz hnx hlt hi;cases z
       ·have HX:=zC (show R=false by
         rw [HE.out,List.all_eq_false];exact ⟨d,zD hj.out,by rw [<-HZ.out];decide⟩)
        clear CN;go_wp2_with fail;go_ret;exact ⟨by rw [HX.out];rfl,bel hb5 hbw⟩
       have Fp:=zC (show ∀ e ∈ (A.exts x.sn x.m).take (j + 1),K.vH bl e=true from λe he=>by
        rw [take_snoc hj.out] at he;rcases dX.1 he with he | he
        ·exact hbef.out e he
        ·rw [dB.1 he];exact HZ.out.symm)
       go_wp2_with fail;refine CN.mono ?_;rintro e w7 ⟨(⟨hnn,rfl⟩ | ⟨d',A',n',c',hnn,rfl,hI',hc'⟩),b7⟩
       ·have Ap:=zC (show ∀ e ∈ A.exts x.sn x.m,K.vH bl e=true by
         have h9:=HEX.out;rw [hnn] at h9;have h8:=List.getElem?_eq_none_iff.1 h9.symm;have h7:=Fp.out;rw [fD h8] at h7;exact h7)
        have hb7:=bel hbw b7;have kV:=zC (show rW x.sn x.m (.slice none 0 0) (.bool false) w7 < rW x.sn x.m (.slice LA ln lc) (.bool true) wo by rw [FU.out];exact Nat.succ_pos _);clear hnn CN;go_wp2_with fail;go_roundw
        case rel=>(go_light;exact ⟨hb7,.inl ⟨rfl,Ap.out⟩⟩)
        case measure=>(go_light;exact kV.out)
       ·have hb7:=bel hbw b7;have kV:=zC (show rW x.sn x.m (.slice A' n' c') (.bool true) w7 < rW x.sn x.m (.slice LA ln lc) (.bool true) wo by
         rw [FU.out,NZ hI'];have h9:=((A.VR wF.out).1 d' (by rw [<-bH.out];exact hnn)).1;have h8:=A.VQ wF.out;rw [yz.out] at h8;omega)
        have O8:=zC (show (A.exts x.sn x.m)[j + 1]? = some d' by rw [<-HEX.out];exact hnn);clear hnn CN;go_wp2_with fail;go_roundw
        case rel=>(go_light;exact ⟨hb7,.inr ⟨j + 1,d',A',n',c',rfl,rfl,hI',O8.out,Fp.out⟩⟩)
        case measure=>(go_light;exact kV.out)
theorem Bools.at_ {w:World} {A:aj} {n k:Nat} {l:List Bool} (h:Bools w A n l) (hk:k < n):∃ ad b,A=some ad/\l[k]? = some b/\w.cell? (ad.add k)=some (.bool b):=by
 obtain ⟨ad,b,hA,hl,hc⟩:=aX.get (f:=Bi) (s:=1) (λ_=>rfl) h hk;have:=hc 0 _ (by decide) rfl;rw [Nat.mul_one,Nat.add_zero] at this;exact ⟨ad,b,hA,hl,this⟩
theorem afk {w:World} {A:aj} {n k:Nat} {L:List BB} (h:aX BB.cells 2 w A n L) (hk:k < n):∃ ad y,A=some ad/\L[k]? = some y/\w.cell? (ad.add (k * 2))=some (.slice y.A y.n y.c)/\w.cell? ⟨(ad.add (k * 2)).block,(ad.add (k * 2)).off + 1,none⟩=some (.slice y.O y.m y.k):=by
 obtain ⟨ad,y,hA,hl,hc⟩:=aX.get (f:=BB.cells) (s:=2) (λ_=>rfl) h hk;refine ⟨ad,y,hA,hl,hc 0 _ (by decide) rfl,?_⟩;rw [<-pO _ _ _ (by decide)];exact hc 1 _ (by decide) rfl
def NTr (w:World) (ts:List TV):Prop:=∀ y ∈ ts,∀ g,Ft y.A y.n g\/Ft y.A' y.n' g->w.heap.size<=g
def Xl (w w':World) (p:List (Nat × K.Tr) × Int) (e:Ending):Prop :=
 (∃ A n c l,e=.returned (.tuple #[.slice A n c,.int .i64 p.2])/\ja w' A n l/\l.map TV.pr=p.1.map (λt=>((t.1:Int),t.2))/\(∀ g,Ft A n g->w.heap.size<=g)/\NTr w l)/\af w w'
theorem Vq {w w':World} {p:List (Nat × K.Tr) × Int} {er:Int} (h:p=([],er)) (hb:af w w'):Xl w w' p (.returned (.tuple #[.slice none 0 0,.int .i64 er])):=by
 subst h;exact ⟨⟨none,0,0,[],rfl,⟨⟨rfl,rfl,λh=>absurd h (by omega)⟩,λy h=>by cases h⟩,rfl,λg e=>absurd e.1 (Nat.lt_irrefl 0),λy h=>(by cases h)⟩,hb⟩
theorem ali {nd:Int} {l:List Ro} {s:S} {r:List Q} {k N:Nat} {ts:List TV} {ok:List Bool} (h:qg nd l s r k N ts ok) {n:Nat} (hn:n < N):ok[n]? = some ((K.oO nd l s r n).2 == 0):=by
 rw [h.2,dG,List.getElem?_range hn];rfl
theorem alj {nd:Int} {l:List Ro} {s:S} {r:List Q} {k N:Nat} {ts:List TV} {ok:List Bool} (h:qg nd l s r k N ts ok) {n:Nat} (hn:n < N) (h0:n ≠ 0) {y:TV} (hy:ts[n]? = some y):y.pr=((k:Int),(K.oO nd l s r n).1):=by
 have e:(ts.map TV.pr)[n]? = some y.pr:=by rw [dG,hy];rfl
 rw [h.1,dG,List.getElem?_range hn] at e;injection e with e;dsimp only at e;rw [if_neg h0] at e;exact e.symm
theorem Ol (x:Cs) (w:World) (hx:eu w x) (h4:K.bK x.nd x.l x.ss x.r=0->x.m<=4) :
  ay 21 #[.agg #[.int .i64 x.nd,.slice x.A x.n x.c],.slice x.SA x.sn x.sc,.slice x.B x.m x.d] w λe w'=>Xl w w' (K.plan x.nd x.l x.ss x.r) e:=by
 obtain ⟨w1,hw1⟩:=zB (w.alloc (.cells #[.int .i64 x.nd,.slice x.A x.n x.c] 24));have hN1:Net w1 w.heap.size x.nd x.A x.n x.c:=by rw [hw1];exact Net.new w x.nd x.A x.n x.c
 have hb1:=aH hw1;obtain ⟨G0,hG0⟩:=zB w.heap.size;rw [<-hG0] at hN1;have eF:=zC hx.shifts.1.1;have aS:=zC hx.bf.1;have CS:=Vx x w1 (hx.below hb1);obtain ⟨ce,hce⟩:=zB (K.bK x.nd x.l x.ss x.r);rw [<-hce] at CS h4;have p0:=hN1.c0;have p1:=hN1.c1;go_enter Tryz.func21,Tryz.ntmps21;go_upto_region 1 with fail;rw [<-hw1,<-hG0];clear hw1 hG0;go_wp2_with fail;refine CS.mono ?_;rintro e w2 ⟨rfl,b2⟩;have hb2:=bel hb1 b2;have kJ:=hN1.below b2;clear CS p0 p1 hN1;by_cases hz:ce=0;rotate_left
 ·have HX:=zC (show K.plan x.nd x.l x.ss x.r=([],ce) by rw [hce] at hz ⊢;exact K.NR hz);have hd:(ce != 0)=true:=by simp [bne,hz]
  clear hce;go_wp2_with fail;go_ret2
  exact Vq HX.out hb2
 subst hz;have aY:=zC hce.symm;have hm4:x.m<=4:=h4 rfl;have uw:x.sn<=4:=by rw [hx.shifts.1.1];exact (K.kT aY.out).2.1
 clear hce h4;by_cases hret:0 < x.m/\x.sn=0
 ·obtain ⟨hm0,hs0⟩:=hret;have HX:=zC (show K.plan x.nd x.l x.ss x.r=([],4) from K.acz aY.out λe he=>by
   rw [<-eF.out,<-aS.out,hs0] at he;obtain ⟨k,hk⟩:∃ k,x.m=k + 1:=⟨x.m - 1,by omega⟩;rw [hk,K.agh] at he;cases he)
  have d1:decide ((0:Int) < (x.m:Int))=true:=zH (by omega);have d2:decide (0 < x.m)=true:=zH hm0;have d3:((x.sn:Int) == 0)=true:=by simp [hs0]
  have d4:decide ((x.sn:Int)=0)=true:=by simp [hs0]
  clear hs0 hm0;go_wp2_with fail;go_ret2
  exact Vq HX.out hb2
 have hcase:0 < x.sn\/x.m=0:=by omega
 have uJ:=zC hcase;go_upto_region 4 with fail;go_cut [30] from 23 to 30 (λv30 wc=>v30=.bool false/\wc=w2)
 case first =>
  by_cases hm0:0 < x.m
  ·have d1:decide ((0:Int) < (x.m:Int))=true:=zH (by omega);have d2:decide (0 < x.m)=true:=zH hm0;have d3:((x.sn:Int) == 0)=false:=by simp;omega
   have d4:decide ((x.sn:Int)=0)=false:=by simp;omega
   clear hret hcase;go_wp2_with fail;go_meet;exact ⟨rfl,rfl⟩
  ·have d1:decide ((0:Int) < (x.m:Int))=false:=zI (by omega);have d2:decide (0 < x.m)=false:=zI hm0;clear hret hcase;go_wp2_with fail;go_meet;exact ⟨rfl,rfl⟩
 case rest =>
 obtain ⟨rfl,hwc⟩:=hcut;rw [hwc];clear hwc hret hcase;have CB:=afj x w2 (hx.below hb2) hm4 uw;have p0:=kJ.c0;have p1:=kJ.c1;go_wp2_with fail;refine CB.mono ?_;rintro e w3 ⟨⟨BA,bn,bc,L,rfl,Zt,rfl,Zh,hNew,Y5⟩,b3⟩;have qi:=zC (show x.sn=L.length from Zt.1);have Wp:=zC Zh;have PD:=zC hNew;have uI:=zC Y5;have hb3:=bel hb2 b3;have anF:=b3.size;have hwz:=hb2.size;clear CB p0 p1 kJ Zh hNew Y5;obtain ⟨h,hh⟩:=zB w3.heap.size;obtain ⟨w5,hw5⟩:=zB (w3.alloc (.cells (intCells (List.replicate x.m 0)).toArray 3));have XL:=aH hw5;have g_:Ints w5 (some ⟨h,0,none⟩) x.m (K.nat (List.replicate x.m 0)):=by
  have h9:eU w5 h (List.replicate x.m 0):=by rw [hw5,hh];exact aA _ _
  have h8:=h9.ints;rw [List.length_replicate] at h8;unfold K.nat;rw [List.map_replicate];exact h8
 have hmk:=CX x.m (by omega);have hb5:=bel hb3 XL;go_wp2_with fail;rw [<-hw5,<-hh];clear hw5 hh hmk;have H8:=K.agf (m:=x.sn) (k:=x.m) uJ.out;go_loopw [10,11] (λv10 v11 wr=>af w5 wr/\((v11=.bool false/\Hid (∀ e ∈ A.exts x.sn x.m,A.possible (K.eH x.nd x.l x.ss x.r) x.ss.length e=false))\/∃ (j:Nat) (d:List Nat) (LA:aj) (ln lc:Nat),v11=.bool true/\v10=.slice LA ln lc/\Ints wr LA ln (K.nat d)/\Hid ((A.exts x.sn x.m)[j]? = some d)/\Hid (∀ e ∈ (A.exts x.sn x.m).take j,A.possible (K.eH x.nd x.l x.ss x.r) x.ss.length e=false))) (λv10 v11 wr=>rW x.sn x.m v10 v11 wr)
 case atStart=>exact ⟨ai,.inr ⟨0,_,_,_,_,rfl,rfl,g_,H8,λe he=>(by cases he)⟩⟩
 case round =>
  clear g_ H8;obtain ⟨hbr,(⟨rfl,hno⟩ | ⟨j,d,LA,ln,lc,rfl,rfl,hI,hj,hbef⟩)⟩:=hrel
  ·have HX:=zC (show K.plan x.nd x.l x.ss x.r=([],4) from K.acz aY.out λe he=>by rw [<-eF.out,<-aS.out] at he;exact hno.out e he);go_wp2_with fail;go_ret2
   exact Vq HX.out (bel hb5 hbr)
  ·obtain ⟨wo,hwo⟩:=zB wr;rw [<-hwo] at hbr hI;rw [<-hwo];clear hwo;obtain ⟨hdl,hdm⟩:=A.rV.1 (zD hj.out);have hln:ln=x.m:=by rw [hI.1];unfold K.nat;rw [bu];exact hdl
   have bM:=zC hln;have yz:=zC hdl;have wF:=zC hdm;have HDR:=zC (show d.length=x.r.length by rw [hdl,aS.out]);have Ic:ln<=1000:=by omega
   have FU:=zC (NZ (c:=lc) (m:=x.sn) (k:=x.m) hI);have hb6:=bel hb5 hbr;have XN:=bel XL hbr;have anH:=hb6.size;clear hdl hdm hln;go_wp2_with fail;go_loopw [12,13,14] (λv12 v13 v14 wi=>∃ (s:Nat) (ts:List TV) (zz:Bool),v14=.int .i64 s/\s<=x.sn/\v13=.bool zz/\wi.ownsRow wo.heap.size 80 4 v12 ts.length (ts.flatMap TV.cells)/\Hid (zz=K.xX x.nd x.l x.ss x.r d s)/\Hid (ts.map TV.pr=(K.uz x.nd x.l x.ss x.r d s).map λt=>((t.1:Int),t.2))/\Hid (∀ y ∈ ts,∃ b ∈ L,y ∈ b.ts)/\ts.length<=s/\af wo wi) (λ_ _ v14 _=>x.sn - (intOf v14).toNat)
   case atStart=>exact ⟨0,[],true,rfl,aW _,rfl,kF _ _ _ _,rfl,rfl,λy hy=>(by cases hy),aW _,ai⟩
   case round =>
    obtain ⟨s,ts,zz,rfl,hs,rfl,hown,hzz,htp,hmem,htl,hbi⟩:=hrel;by_cases hlt:s < x.sn
    ·obtain ⟨i0,i1⟩:=zJ (a:=s) (b:=x.sn) (by omega);obtain ⟨sS,hsS⟩:∃ sS,x.ss[s]? = some sS:=⟨_,zF (by rw [<-eF.out];exact hlt)⟩;have PM:=zC (K.akY (nd:=x.nd) (l:=x.l) (r:=x.r) (d:=d) hsS);have AO:=zC (λh=>K.ak5 (nd:=x.nd) (l:=x.l) (ss:=x.ss) (r:=x.r) (d:=d) (s:=s) h);have nZ:=zC (λh=>K.ak6 (nd:=x.nd) (l:=x.l) (r:=x.r) (d:=d) hsS h);have hsh:=A.sD d s 0;have hin:=K.Jm HDR.out s;have hpn:=K.Va (by rw [<-aS.out];exact hm4) hsh hin;obtain ⟨v,hv⟩:=zB (A.share d s 0);rw [<-hv] at hsh hin hpn PM AO nZ;have OU:=adU LA ln lc d s wr (hI.below hbi) Ic;rw [<-hv] at OU;have aan:∀ i ∈ v,0<=i/\i < 6:=λi hi=>by have:=hin i hi;have:=aS.out;omega
     obtain ⟨nn,hnn⟩:=zB (K.num v);have hnp:nn < 2 ^ x.r.length:=by rw [hnn];exact hpn.2
     rw [<-hnn] at PM AO nZ;have DC:=zC hnp;have HH6:=zC aan;have qo:=zC hsh;have wH:=zC hnn.symm;have ku:=zC hsS;have h16:nn < 16:=dO hnp (by rw [<-aS.out];exact K.acA hm4);clear hsS hpn hv hnn hnp aan hin hsh;go_upto_region 16 with fail;go_wp2_with fail;refine OU.mono ?_;rintro e w6 ⟨⟨V,vn,vc,rfl,hV,-⟩,b6⟩;have CN:=ajj V vn vc v w6 hV qo.out HH6.out;rw [wH.out] at CN;clear OU;go_wp2_with fail;refine CN.mono ?_;rintro e w6' ⟨rfl,rfl⟩;have SS:=bel hbi b6;have XM:=bel XN SS;have hown6:=own_below hown b6;obtain ⟨adB,y,m_,hy,c0,c1⟩:=afk (aX.below Zt XM) hlt;have Ut:=zD hy;have IE:=(Wp.out y Ut).below XM;have LH:=uI.out s y sS hy ku.out;obtain ⟨hl1,hl2⟩:=LH.len;have hnT:nn < y.n:=by rw [IE.1.1.1,hl1];exact DC.out
     have hnO:nn < y.m:=by rw [IE.2.1,hl2];exact DC.out
     obtain ⟨adO,bO,BK,uk,cO⟩:=IE.2.at_ hnO;have ZZ:bO=((K.oO x.nd x.l sS x.r nn).2 == 0):=by
      have h9:=ali LH DC.out;rw [uk] at h9;injection h9
     obtain ⟨n0,n1⟩:=zJ (a:=nn) (b:=y.m) (by omega);have n2:(nn:Int) < (y.n:Int):=by omega
     have HZ2:=zC (show (zz && bO)=K.xX x.nd x.l x.ss x.r d (s + 1) by rw [PM.out,<-hzz.out,ZZ]);obtain ⟨uS,tv,hTA,Ug,⟨hI1,hI2⟩,t0,t1,t2,t3⟩:=IE.1.at_ hnT;have HTV:=zC (λh0=>alj LH DC.out h0 Ug);have AL:=zC (zD Ug);have JS:=zC Ut;have JA:=zC m_;have HOA:=zC BK;have HTA:=zC hTA;rw [BK] at c1;rw [hTA] at c0;obtain ⟨zn,hzn⟩:=zB ((zz && bO));have JU:=zC hzn;clear CN uk ZZ LH hl1 hl2 Ug Ut hy hzz IE BK hTA;rw [m_];clear m_;go_upto_region 17 with fail;go_cut [13] from 56 to 66 (λv13 wc=>v13=.bool zn/\wc=w6)
     case first =>
      cases zz
      ·go_wp2_with fail;go_meet;exact ⟨by rw [JU.out];rfl,rfl⟩
      ·go_wp2_with fail;go_meet;exact ⟨by rw [JU.out];rfl,rfl⟩
     case rest =>
     obtain ⟨rfl,hwc⟩:=hcut;rw [hwc];clear hwc c1 cO hnO hzn;by_cases h0:nn=0
     ·have e1:decide ((0:Int) < (nn:Int))=false:=zI (by omega);have e2:decide (0 < nn)=false:=zI (by omega);have HT2:=zC (show ts.map TV.pr=(K.uz x.nd x.l x.ss x.r d (s + 1)).map λt=>((t.1:Int),t.2) by rw [AO.out h0];exact htp.out);clear h0 t0 t1 t2 t3 c0;rw [<-JA.out];go_wp2_with fail;go_roundw
      case rel=>(go_light;exact ⟨s + 1,ts,zn,by go_num,hlt,rfl,hown6,by rw [JU.out];exact HZ2.out,HT2.out,hmem.out,Nat.le_succ_of_le htl,SS⟩)
      case measure=>(go_light;simp [intOf];omega)
     ·have e1:decide ((0:Int) < (nn:Int))=true:=zH (by omega);have e2:decide (0 < nn)=true:=zH (by omega);have aaS:=HTV.out h0;have HT2:=zC (show (ts ++ [tv]).map TV.pr=(K.uz x.nd x.l x.ss x.r d (s + 1)).map λt=>((t.1:Int),t.2) by rw [nZ.out h0,eG,eG,htp.out,List.map_singleton,List.map_singleton,aaS]);have Po:=zC (show ∀ z ∈ ts ++ [tv],∃ b ∈ L,z ∈ b.ts from λz hz=>by
       rcases dX.1 hz with hz | hz
       ·exact hmem.out z hz
       ·rw [dB.1 hz];exact ⟨y,JS.out,AL.out⟩)
      obtain ⟨w7,hw7⟩:=zB (w6.alloc (.cells #[.int .i64 tv.sh,.slice tv.A tv.n tv.c,.slice tv.A' tv.n' tv.c',.int .i64 tv.t.end_] 80));obtain ⟨g7,oG⟩:=zB w6.heap.size;have b7:=aH hw7;have hL7:w7.heap[g7]? = some (.cells #[.int .i64 tv.sh,.slice tv.A tv.n tv.c,.slice tv.A' tv.n' tv.c',.int .i64 tv.t.end_] 80 (0,0)):=by rw [hw7,oG];exact aA _ _
      have jO:=own_below hown6 b7;have Z7:=bel SS b7;have rP:wo.heap.size<=w7.heap.size:=Z7.size;have Uf:ts.length<=1000000:=by omega
      have ah2:(ts ++ [tv]).length<=s + 1:=by rw [cZ];exact Nat.succ_le_succ htl
      clear h0 aaS;go_upto_region 15 with (first
       | (at_builtin;rw [<-hw7,<-oG];refine Qk rfl _ _ rfl wo.heap.size _ ts.length ts rfl jO g7 tv rfl hL7 Uf rP ?_;intro v8 w8 xH Cb Mc)
       | fail)
      have ahe:af wo w8:=dY Z7 Cb (λg e=>(gz jO g e).1);have ahO:w8.ownsRow wo.heap.size 80 4 v8 (ts ++ [tv]).length ((ts ++ [tv]).flatMap TV.cells):=by rw [cZ];exact xH
      rw [<-JA.out];clear t0 t1 t2 t3 c0 hw7 oG hL7 jO xH Cb Mc;go_wp2_with fail;go_roundw
      case rel=>(go_light;exact ⟨s + 1,ts ++ [tv],zn,by go_num,hlt,rfl,ahO,by rw [JU.out];exact HZ2.out,HT2.out,Po.out,ah2,ahe⟩)
      case measure=>(go_light;simp [intOf];omega)
    ·obtain ⟨hd,hd2⟩:=zL (a:=s) (b:=x.sn) (by omega);have hsl:s=x.ss.length:=by have:=eF.out;omega
     have qW:=zC hsl;have hbw:=bel hb6 hbi;clear hsl;cases zz;rotate_left
     ·have HX:=zC (show K.plan x.nd x.l x.ss x.r=(K.uz x.nd x.l x.ss x.r d x.ss.length,0) from K.aj6 (j:=j) aY.out (by rw [<-aS.out];exact hm4) (by rw [<-eF.out,<-aS.out];exact hj.out) (by rw [<-eF.out,<-aS.out];have:=hbef.out;rwa [<-eF.out] at this) (by rw [<-qW.out];exact hzz.out.symm));obtain ⟨OA,oc,rfl,jL,hfr⟩:=fP hown;have Wj:=zC (show ∀ y ∈ ts,(Ints wr y.A y.n y.t.stops/\Ints wr y.A' y.n' y.t.times)/\∀ g,Ft y.A y.n g\/Ft y.A' y.n' g->w.heap.size<=g from λy hy=>by
       obtain ⟨b,hb,hyb⟩:=hmem.out y hy;refine ⟨((Wp.out b hb).below (bel XN hbi)).1.2 y hyb,λg e=>?_⟩;have h9:=PD.out b hb g (.inl (.inr ⟨y,hyb,e⟩));omega)
      go_wp2_with fail;go_ret2
      refine ⟨⟨OA,_,oc,ts,by rw [HX.out];rfl,⟨⟨rfl,jL⟩,λy hy=>(Wj.out y hy).1⟩,?_,λg e=>?_,λy hy=>(Wj.out y hy).2⟩,hbw⟩
      ·rw [HX.out,htp.out,qW.out]
      ·obtain ⟨-,ad,rfl,e2⟩:=e;have:=(hfr ad.block rfl).1;omega
     ·have h3:0 < x.sn:=by
       rcases uJ.out with h | h
       ·exact h
       ·by_cases h9:0 < x.sn
        ·exact h9
        ·have hs0:s=0:=by omega
         have:=hzz.out;rw [hs0] at this;cases this
      have CN:=abH LA ln lc d x.sn wr (hI.below hbi) Ic wF.out (by omega);have HEX:=zC (A.abN h3 hj.out);obtain ⟨nx,hnx⟩:=zB (A.next x.sn d);rw [<-hnx] at CN HEX;have bH:=zC hnx;have DC:=zC (show A.possible (K.eH x.nd x.l x.ss x.r) x.ss.length d=false by rw [<-K.adn (by rw [<-aS.out];exact hm4) HDR.out,<-qW.out];exact hzz.out.symm);have Fp:=zC (show ∀ e ∈ (A.exts x.sn x.m).take (j + 1),A.possible (K.eH x.nd x.l x.ss x.r) x.ss.length e=false from λe he=>by
       rw [take_snoc hj.out] at he;rcases dX.1 he with he | he
       ·exact hbef.out e he
       ·rw [dB.1 he];exact DC.out)
      clear hnx hlt hs;go_wp2_with fail;refine CN.mono ?_;have zu:=bel hbr hbi;rintro e w7 ⟨(⟨hnn,rfl⟩ | ⟨d',A',n',c',hnn,rfl,hI',hc'⟩),b7⟩
      ·have Ap:=zC (show ∀ e ∈ A.exts x.sn x.m,A.possible (K.eH x.nd x.l x.ss x.r) x.ss.length e=false by
        have h9:=HEX.out;rw [hnn] at h9;have h8:=List.getElem?_eq_none_iff.1 h9.symm;have h7:=Fp.out;rw [fD h8] at h7;exact h7)
       have hb7:=bel zu b7;have kV:=zC (show rW x.sn x.m (.slice none 0 0) (.bool false) w7 < rW x.sn x.m (.slice LA ln lc) (.bool true) wo by rw [FU.out];exact Nat.succ_pos _);clear hnn CN;go_wp2_with fail;go_roundw
       case rel=>(go_light;exact ⟨hb7,.inl ⟨rfl,Ap.out⟩⟩)
       case measure=>(go_light;exact kV.out)
      ·have hb7:=bel zu b7;have kV:=zC (show rW x.sn x.m (.slice A' n' c') (.bool true) w7 < rW x.sn x.m (.slice LA ln lc) (.bool true) wo by
        rw [FU.out,NZ hI'];have h9:=((A.VR wF.out).1 d' (by rw [<-bH.out];exact hnn)).1;have h8:=A.VQ wF.out;rw [yz.out] at h8;omega)
       have O8:=zC (show (A.exts x.sn x.m)[j + 1]? = some d' by rw [<-HEX.out];exact hnn);clear hnn CN;go_wp2_with fail;go_roundw
       case rel=>(go_light;exact ⟨hb7,.inr ⟨j + 1,d',A',n',c',rfl,rfl,hI',O8.out,Fp.out⟩⟩)
       case measure=>(go_light;exact kV.out)
theorem akj (x:Cs) (q:Q) (V:aj) (vn vc:Nat) (v:ag) (w:World) (hx:lI w x q) (hV:Ints w V vn v) (hv:∀ i ∈ v,0<=i/\i < (x.r.length:Int)) (hvn:vn + 1<=4) :
  ay 103 #[lm x,.slice V vn vc,iL q] w (bg w (K.kH x.nd x.l x.ss x.r q v)):=by
 obtain ⟨g,hg⟩:=zB w.heap.size;obtain ⟨w0,hw0⟩:=zB (w.alloc (.cells #[.int .i64 x.nd,.slice x.A x.n x.c,.slice x.SA x.sn x.sc,.slice x.B x.m x.d] 44));have b0:=aH hw0;have z0:w0.heap.size=g + 1:=by rw [hw0,hg];exact aF _ _
 have hN0:iY w0 g x:=by rw [hw0,hg];exact iY.new _ _
 obtain ⟨wb,hw1⟩:=zB (w0.alloc (.cells #[.int .i64 q.node,.int .i64 q.room,.int .i64 q.a_,.int .i64 q.service,.int .i64 q.aI,.int .i64 q.aP,.slice q.A q.n q.c] 47));have b1:=aH hw1;have hB1:dV wb (g + 1) q:=by rw [hw1,<-z0];exact dV.new _ _
 have hN1:=hN0.below b1;have hb1:=bel b0 b1;have hmk:∀ w',af wb w'->BQ g x q w':=λw' h=>BQ.mk' (hN1.below h) (hB1.below h);have hbd:af wb wb.drew:=ai.drew;have S0:=hmk _ ai;have aQ:=hmk _ hbd;have hxb:=hx.below hb1;have Si:=hV.below hb1;obtain ⟨pz,hpz⟩:=zB ((K.plan x.nd x.l x.ss (K.dD x.r v q)).2);have HX:=zC (show K.kH x.nd x.l x.ss x.r q v=(pz == 4) by unfold K.kH;rw [<-hpz]);have HPZ:=zC hpz;have zQ:vn<=1000:=by omega
 have vK:vn + 1<=1000000:=by omega
 clear hpz;go_enter Tryz.func103,Tryz.ntmps103;go_upto_region 1 with fail;rw [<-hw0,<-hw1];clear hw0 hw1 z0 hN0 b0 b1 hB1 hN1;unfold BQ at S0 aQ hmk;subst hg
 go_region_held3 (pK w x q)
  (with_reducible first | exact S2 | exact S1 | exact aQ | exact S0 | fail)
  (first
   | (go_at_call 101;refine (EX x.B x.m x.d x.r V vn vc v q _ (hxb.below hbd).cs.bf (Si.below hbd) hv (hxb.below hbd).req zQ).mono ?_;rintro e wc ⟨⟨A1,k1,rfl,hL1,hk1,-⟩,bc⟩;have bc2:=bel hbd bc;have S1:=hmk _ bc2)
   | (go_at_call 21;refine (Ol (x.with_ A1 (vn + 1) k1 (K.dD x.r v q)) _ (hxb.case bc2 hL1 rfl vK) (λ_=>hvn)).mono ?_;rintro e wd ⟨⟨PA,pn,pc,pl,rfl,-,-,-,-⟩,bd⟩;have pV:=bel bc2 bd;have S2:=hmk _ pV)
   | fail)
 have hz:(K.plan (x.with_ A1 (vn + 1) k1 (K.dD x.r v q)).nd (x.with_ A1 (vn + 1) k1 (K.dD x.r v q)).l (x.with_ A1 (vn + 1) k1 (K.dD x.r v q)).ss (x.with_ A1 (vn + 1) k1 (K.dD x.r v q)).r).2=pz:=HPZ.out.symm;rw [hz];go_wp2_with fail;go_ret;exact ⟨by rw [HX.out];rfl,bel hb1 pV⟩
end Go.Proofs.YtippdjmpkafifaaGreat
