import Derived.Test.YtippdjmpkafifaaGreatCR20
import Derived.Test.YtippdjmpkafifaaGreatCR16
import Derived.Test.YtippdjmpkafifaaGreatCR15
import Derived.Test.YtippdjmpkafifaaGreatCR18
set_option maxRecDepth 100000
set_option maxHeartbeats 64000000
namespace Go.Proofs.YtippdjmpkafifaaGreat
open Go.RowKit
abbrev Gl (G0:Nat) (x:Cs) (bP:Addr) (s:Nat) (sS:S) (gK:Addr) (j:Nat) (t:Sh):World->Prop:=λw':World=>aJ w' G0 0 x.nd/\bT w' G0 1 x.A x.n x.c/\w'.cell? (bP.add (s * 6))=some (.int .i64 sS.day)/\aJ w' ((bP.add (s * 6)).block) ((bP.add (s * 6)).off + 1) sS.ax/\aJ w' ((bP.add (s * 6)).block) ((bP.add (s * 6)).off + 2) sS.start/\aJ w' ((bP.add (s * 6)).block) ((bP.add (s * 6)).off + 3) sS.end_/\aJ w' ((bP.add (s * 6)).block) ((bP.add (s * 6)).off + 4) sS.aU/\bT w' ((bP.add (s * 6)).block) ((bP.add (s * 6)).off + 5) sS.A sS.n sS.c/\w'.cell? (gK.add j)=some (.slice t.A t.n t.c)
def Qc (B:Nat) (bl:List BV):Prop:=∀ y ∈ bl,∀ g,Ft y.V y.vn g\/Ft y.LA y.ln g->B<=g
def Xm (w w':World) (p:List (Int × List Int × List Lb)) (er:Int) (e:Ending):Prop :=
 (∃ A n c bl,e=.returned (.tuple #[.slice A n c,.int .i64 er])/\iZ w' A n bl/\bl.map BV.pr=p/\(∀ g,UB A n bl g->w.heap.size<=g)/\n<=c/\Ak n bl)/\af w w'
theorem ac0 {w w':World} {er:Int} (hb:af w w'):Xm w w' [] er (.returned (.tuple #[.slice none 0 0,.int .i64 er])) :=
 ⟨⟨none,0,0,[],rfl,⟨⟨rfl,rfl,λh=>absurd h (by omega)⟩,λy h=>by cases h⟩,rfl,λg e=>e.elim (λe=>absurd e.1 (Nat.lt_irrefl 0)) (λ⟨y,h,_⟩=>by cases h),zG _,⟨by omega,λy h=>by cases h⟩⟩,hb⟩
structure yG (ws w:World) (v:Value) (BS:Nat) (own:List Sh) (E:aj) (m:Nat) (l:List Sh):Prop where
 row:w.ownsRow BS 48 1 v own.length (own.map Sh.val)
 ok:iF w v own
 bw:af ws w
 sh:gZ w E m l
 off:iT E m v
 lk:iF w v l
theorem yG.below {ws w w':World} {v:Value} {BS:Nat} {own:List Sh} {E:aj} {m:Nat} {l:List Sh} (h:yG ws w v BS own E m l) (hb:af w w'):yG ws w' v BS own E m l :=
 ⟨own_below h.row hb,h.ok.below hb,bel h.bw hb,h.sh.below hb,h.off,h.lk.below hb⟩
theorem yG.app {ws w w':World} {v v':Value} {BS:Nat} {own:List Sh} {E:aj} {m:Nat} {l:List Sh} (h:yG ws w v BS own E m l) {y:Sh} (hy:y ∈ l) (hg:w.grownBy w' v.ownBlock) (ha:v'.ownBlock=v.ownBlock\/v'.ownBlock=some w.heap.size) (hr:w'.ownsRow BS 48 1 v' (own.length + 1) ((own ++ [y]).map Sh.val)) (hBS:BS=ws.heap.size):yG ws w' v' BS (own ++ [y]) E m l:=by
 have h1:=h.lk.grow hg ha;exact ⟨by rw [cZ];exact hr,(h.ok.grow hg ha).snoc (h1 y hy).1 (h1 y hy).2,dY h.bw hg (λg e=>by rw [<-hBS];exact (gz h.row g e).1),h.sh.grown hg (λh0 ad e e2=>h.off h0 ad e e2.symm) (λs hs h0 ad e e2=>(h.lk s hs).2 h0 ad e e2.symm),h.off.grow h.sh ha,h1⟩
structure yu (w1 w:World) (v:Value) (B1:Nat) (bl:List BV) (E:aj) (n:Nat) (own:List Sh):Prop where
 row:w.ownsRow B1 90 3 v bl.length (bl.flatMap BV.cells)
 ok:nV w v bl
 bw:af w1 w
 sh:gZ w E n own
 off:iT E n v
 lk:iF w v own
theorem yu.below {w1 w w':World} {v:Value} {B1:Nat} {bl:List BV} {E:aj} {n:Nat} {own:List Sh} (h:yu w1 w v B1 bl E n own) (hb:af w w'):yu w1 w' v B1 bl E n own :=
 ⟨own_below h.row hb,h.ok.below hb,bel h.bw hb,h.sh.below hb,h.off,h.lk.below hb⟩
theorem yu.app {w1 w w':World} {v v':Value} {B1:Nat} {bl:List BV} {E:aj} {n:Nat} {own:List Sh} (h:yu w1 w v B1 bl E n own) (hB:B1=w1.heap.size) {y:BV} (hy:(Ints w y.V y.vn y.v/\gY w y.LA y.ln y.lb)/\iT y.V y.vn v/\iT y.LA y.ln v/\(y.vn<=y.vc/\y.vn<=6/\y.ln<=384)) (hg:w.grownBy w' v.ownBlock) (ha:v'.ownBlock=v.ownBlock\/v'.ownBlock=some w.heap.size) (hr:w'.ownsRow B1 90 3 v' (bl.length + 1) ((bl ++ [y]).flatMap BV.cells)):yu w1 w' v' B1 (bl ++ [y]) E n own :=
 ⟨by rw [cZ];exact hr,(h.ok.snoc hy).grow hg ha,dY h.bw hg (λg e=>by rw [<-hB];exact (gz h.row g e).1),h.sh.grown hg (λh0 ad e e2=>h.off h0 ad e e2.symm) (λs hs h0 ad e e2=>(h.lk s hs).2 h0 ad e e2.symm),h.off.grow h.sh ha,h.lk.grow hg ha⟩
theorem akZ (x:Cs) (w:World) (hx:eu w x) (h4:K.bK x.nd x.l x.ss x.r=0->x.m<=4) :
  ay 23 #[.agg #[.int .i64 x.nd,.slice x.A x.n x.c],.slice x.SA x.sn x.sc,.slice x.B x.m x.d] w λe w'=>Xm w w' ((K.refute x.nd x.l x.ss x.r).1.map λb=>((b.1:Int),b.2)) (K.refute x.nd x.l x.ss x.r).2 e:=by
 obtain ⟨w0,hw0⟩:=zB (w.alloc (.cells #[.int .i64 x.nd,.slice x.A x.n x.c] 24));have hN0:Net w0 w.heap.size x.nd x.A x.n x.c:=by rw [hw0];exact Net.new w x.nd x.A x.n x.c
 have hb0:=aH hw0;obtain ⟨G0,hG0⟩:=zB w.heap.size;rw [<-hG0] at hN0;have eF:=zC hx.shifts.1.1;have aS:=zC hx.bf.1;have CP:=Ol x w0 (hx.below hb0) h4;have p0:=hN0.c0;have p1:=hN0.c1;go_enter Tryz.func23,Tryz.ntmps23;go_upto_region 1 with fail;rw [<-hw0,<-hG0];clear hw0 hG0;go_wp2_with fail;refine CP.mono ?_;rintro e w1 ⟨⟨PA,pn,pc,pl,rfl,-,-,-,-⟩,b1⟩;obtain ⟨ce,hce⟩:=zB ((K.plan x.nd x.l x.ss x.r).2);rw [<-hce];have hN1:=hN0.below b1;have hb1:=bel hb0 b1;clear CP p0 p1 hN0 b1;by_cases hz:ce=0
 ·have HX:=zC (show K.refute x.nd x.l x.ss x.r=([],7) from K.acK (by rw [<-hce];exact hz));have hd:(ce == 0)=true:=by simp [hz]
  have hd2:decide (ce=0)=true:=by simp [hz]
  clear hce hz;go_wp2_with fail;go_ret2
  rw [HX.out];exact ac0 hb1
 by_cases o8:ce=4;rotate_left
 ·have HX:=zC (show K.refute x.nd x.l x.ss x.r=([],ce) by rw [hce] at hz o8 ⊢;exact K.acI hz o8);have hd:(ce == 0)=false:=by simp [hz]
  have hd2:(ce != 4)=true:=by simp [bne,o8]
  clear hce hz o8;go_wp2_with fail;go_ret2
  rw [HX.out];exact ac0 hb1
 subst o8;have HR:=zC (K.acH hce.symm);have aY:=zC (K.acy hce.symm);clear hce hz;have hm4:x.m<=4:=h4 aY.out;have uw:x.sn<=4:=by rw [hx.shifts.1.1];exact (K.kT aY.out).2.1
 clear h4;go_upto_region 7 with fail;go_wp2_with fail;go_loopw [10,11] (λv10 v11 wr=>∃ k:Nat,v11=.int .i64 k/\k<=x.m/\wr.ownsRow w1.heap.size 3 1 v10 k (intCells (K.iota k))/\af w1 wr) (λ_ v11 _=>x.m - (intOf v11).toNat)
 case atStart=>exact ⟨0,rfl,aW _,kF _ _ _ _,ai⟩
 case round =>
  obtain ⟨k,rfl,hk,hown,hbk⟩:=hrel;by_cases hkm:k < x.m
  ·obtain ⟨kd,xM⟩:=zK (a:=k) (b:=x.m) (by omega);obtain ⟨g9,pY⟩:=zB wr.heap.size;obtain ⟨w6,hw6⟩:=zB (wr.alloc (.cells #[.int .i64 k] 3));have b6:=aH hw6;have lU:w6.heap[g9]? = some (.cells #[.int .i64 k] 3 (0,0)):=by rw [hw6,pY];exact aA _ _
   have hown6:=own_below hown b6;have hb6:=bel hbk b6;have Tc:w1.heap.size<=w6.heap.size:=hb6.size;have hk6:k<=1000000:=by omega
   have HE:=zC (K.aa2 k);go_wp2_with (first
    | (at_builtin;rw [<-hw6,<-pY];refine wU rfl _ _ rfl w1.heap.size _ k (K.iota k) rfl hown6 g9 k rfl lU hk6 Tc ?_;intro v7 w7 jO xB _)
    | fail)
   have hb7:af w1 w7:=dY hb6 xB (λg e=>(gz hown6 g e).1);go_roundw
   case rel=>(go_light;exact ⟨k + 1,by go_num,hkm,by rw [HE.out];exact jO,hb7⟩)
   case measure=>(go_light;simp [intOf];omega)
  obtain ⟨kd,xM⟩:=zL (a:=k) (b:=x.m) (by omega);have zy:k=x.m:=by omega
  rw [zy] at hown;have ZU:=hown;obtain ⟨AA,ac,rfl,hAr,hAf⟩:=fP hown;have hac:x.m<=ac:=Dc ZU;have Y3:Ints wr AA x.m (K.lG 0 x.m):=by
   rw [K.aeg];exact ⟨(K.Nj _).symm,hAr⟩
  obtain ⟨w2,hw2⟩:=zB wr;rw [<-hw2] at Y3 hbk;rw [<-hw2];clear hw2 zy hAr hAf ZU hown hkm;have hb2:=bel hb1 hbk;have kJ:=hN1.below hbk;have hx2:=hx.below hb2;obtain ⟨B1,hB1⟩:=zB w2.heap.size;have HB1:=zC hB1;have hwB:w.heap.size<=B1:=by rw [hB1];exact hb2.size
  clear hB1;go_wp2_with fail;clear kd xM;go_loopw [12,13] (λv12 v13 wr=>∃ (s:Nat) (bl:List BV),v13=.int .i64 s/\s<=x.sn/\wr.ownsRow B1 90 3 v12 bl.length (bl.flatMap BV.cells)/\nV wr v12 bl/\Qc B1 bl/\bl.length<=1000 * s/\Hid (bl.map BV.pr=K.wZ x.nd x.l x.ss x.r s)/\af w2 wr) (λ_ v13 _=>x.sn - (intOf v13).toNat)
  case atStart=>exact ⟨0,[],rfl,aW _,kF _ _ _ _,λy hy=>(by cases hy),λy hy=>(by cases hy),aW _,rfl,ai⟩
  case round =>
   obtain ⟨s,bl,rfl,hs,hown,vF,hnb,hbl,hcl,hbr⟩:=hrel;obtain ⟨ws,hws⟩:=zB wr;rw [<-hws] at hown vF hbr;rw [<-hws];clear hws;by_cases hlt:s < x.sn;rotate_left
   ·have hse:s=x.ss.length:=by have:=eF.out;omega
    obtain ⟨hd,hd2⟩:=zL (a:=s) (b:=x.sn) (by omega);have aaf:=hown;obtain ⟨A9,c9,rfl,jL,hfr⟩:=fP hown;have lV:bl.length<=c9:=Dc aaf;have HB:=zC (show bl.map BV.pr=(K.refute x.nd x.l x.ss x.r).1.map λb=>((b.1:Int),b.2) by rw [HR.out,K.X3,<-hse];exact hcl.out);have HX:=zC (show (K.refute x.nd x.l x.ss x.r).2=0 by rw [HR.out]);have hbn:bl.length<=1000000000:=by omega
    clear hse hown aaf;go_wp2_with fail;go_ret2
    rw [HX.out];refine ⟨⟨A9,bl.length,c9,bl,rfl,⟨⟨rfl,jL⟩,λy hy=>(vF y hy).1⟩,HB.out,?_,lV,⟨hbn,λy hy=>by obtain ⟨-,-,-,h1,h2,h3⟩:=vF y hy;exact ⟨h1,by omega,by omega⟩⟩⟩,bel hb2 hbr⟩;rintro g (⟨-,ad,e,rfl⟩ | ⟨y,hy,e⟩)
    ·exact aN hwB (hfr ad.block (by rw [e];rfl)).1
    ·exact aN hwB (hnb y hy g e)
   obtain ⟨i0,i1⟩:=zJ (a:=s) (b:=x.sn) (by omega);obtain ⟨d0,d0'⟩:=zK (a:=s) (b:=x.sn) (by omega);have hbs:=bel hb2 hbr;have hNs:=kJ.below hbr;have hxs:=hx2.below hbr;have hAs:=Y3.below hbr;obtain ⟨bP,sS,jA,hsS,tN,s0,s1,s2,s3,s4,s5⟩:=hx2.shifts.at_ hlt;have ku:=zC hsS;have DK:=zC (zD hsS);have sO:=zC jA;have hmk:∀ w',af w2 w'->(DU G0 x bP s sS) w':=λw' h=>by
    have mv:∀ {p:Addr} {v:Value},w2.cell? p=some v->w'.cell? p=some v:=λg=>(h.cell (cell_lt g)).trans g;exact ⟨mv kJ.c0,mv kJ.c1,mv s0,mv s1,mv s2,mv s3,mv s4,mv s5⟩
   have aC:=zC hmk;obtain ⟨FE,D9⟩:=zB (K.eH x.nd x.l x.ss x.r s);have Aq:=zC D9;have HFV:=zC (show ∀ v,FE v=((K.jF x.nd x.l sS x.r v).2 == 0) from λv=>by rw [D9];unfold K.eH;rw [hsS]);obtain ⟨BS,hBS⟩:=zB ws.heap.size;have nX:=zC hBS;clear D9 hsS jA hmk tN s0 s1 s2 s3 s4 s5 hBS;go_upto_region 16 with fail;go_wp2_with fail;clear d0 d0';go_loopw [14,15] (λv14 v15 wi=>∃ (n:Nat) (own:List Sh),v15=.int .i64 (n + 1:Nat)/\n<=x.m/\wi.ownsRow BS 48 1 v14 own.length (own.map Sh.val)/\iF wi v14 own/\kY BS own/\(∀ y ∈ own,y.n<=6/\y.l.length<=4)/\own.length<=64 * n/\Hid (own.map Sh.l=A.gV FE [] (A.upto x.m n))/\af ws wi) (λ_ v15 _=>x.m + 1 - (intOf v15).toNat)
   case atStart=>exact ⟨0,[],rfl,aW _,kF _ _ _ _,λy hy=>(by cases hy),λy hy=>(by cases hy),λy hy=>(by cases hy),aW _,rfl,ai⟩
   case round =>
    obtain ⟨n,own,rfl,hn,hownO,qH,xG,D8,hlO,En,uk⟩:=hrel;obtain ⟨wk,hwk⟩:=zB wr;rw [<-hwk] at hownO qH uk;rw [<-hwk];clear hwk;obtain ⟨N1,Lp⟩:=zB (n + 1);have Dz:=zC Lp;rw [<-Lp];by_cases hnm:n < x.m
    ·obtain ⟨k0,k0'⟩:=zM (a:=N1) (b:=x.m) (by omega);have am_:N1<=x.m:=by omega
     clear Lp;have CS:=alM x.m (by omega) N1 0 AA ac wk (by omega) (aW _) (by rw [Nat.sub_zero];exact hAs.below uk) (by rw [Nat.sub_zero];exact hac);rw [Nat.sub_zero] at CS;have hDl:(A.dM x.m N1 0).length<=64:=A.DZ (by omega) (by omega) (by omega);obtain ⟨D,hD⟩:=zB (A.dM x.m N1 0);rw [<-hD] at CS hDl;have HD:=zC hD;clear hD;go_wp2_with fail;refine CS.mono ?_;rintro e wl ⟨⟨E,m,c,l,rfl,hSl,hmc,iJ,jy,hln⟩,pW⟩;have hml:m<=64:=by rw [hSl.1.1,<-bu (f:=Sh.l),iJ];exact hDl
     have dP:∀ t ∈ l,t.n<=6/\t.l.length<=4/\t.l.Pairwise (· < ·)/\∀ i ∈ t.l,0<=i/\i < (x.m:Int):=λt ht=>by
      have h9:t.l ∈ A.dM x.m N1 0:=by rw [<-HD.out,<-iJ];exact List.mem_map_of_mem ht
      obtain ⟨h1,h2,h3⟩:=A.qL.1 h9;have h4:=(hSl.2 t ht).1.1;exact ⟨by omega,by omega,h2,λi hi=>by have:=h3 i hi;omega⟩
     have Ii:iT E m u14:=λ_ ad e e2=>by
      have h1:=(gz hownO _ e2).2;have h2:=jy ad e;omega
     have Ir:iF wl u14 l:=λt ht=>⟨hSl.2 t ht,λh0 ad e e2=>by
      have h1:=(gz hownO _ e2).2;have h2:=hln t ht h0 ad e;omega⟩
     have M0:yG ws wl u14 BS own E m l:=⟨own_below hownO pW,qH.below pW,bel uk pW,hSl,Ii,Ir⟩;have TM:kY BS l:=hln.mono (by rw [nX.out];exact uk.size);have Az:=zC iJ;have HL6:=zC dP;have qW:=zC hSl.1.1;clear CS hownO qH uk jy hln pW Ii Ir hSl iJ dP;go_wp2_with fail;clear k0 k0';go_loopw [14,17] (λv14 v17 wj=>∃ (j:Nat) (own':List Sh),v17=.int .i64 j/\j<=m/\yG ws wj v14 BS own' E m l/\kY BS own'/\(∀ y ∈ own',y.n<=6/\y.l.length<=4)/\own'.length<=own.length + j/\Hid (own'.map Sh.l=A.gV FE [] (A.upto x.m n ++ (l.take j).map Sh.l))) (λ_ v17 _=>m - (intOf v17).toNat)
     case atStart=>exact ⟨0,own,rfl,aW _,M0,xG,D8,zG _,by show _=_;rw [List.take_zero,List.map_nil,List.append_nil];exact En.out⟩
     case round =>
      clear M0;obtain ⟨j,own',rfl,hj,M,nR,uX,ny,hcI⟩:=hrel;obtain ⟨wj,CG⟩:=zB wr;rw [<-CG] at M;rw [<-CG];clear CG;by_cases hjm:j < m
      ·obtain ⟨E2,c2,rfl,hS2,hc2,-⟩:=Df M.row rfl M.ok;obtain ⟨gK,t,hEA,hg,⟨hI,hsc,hs0⟩,hc⟩:=M.sh.at_ hjm;obtain ⟨j0,j1⟩:=zJ (a:=j) (b:=m) (by omega);obtain ⟨jd,xK⟩:=zK (a:=j) (b:=m) (by omega);have nC:=zD hg;obtain ⟨h6,QR,hso,hbd⟩:=HL6.out t nC;have IC:t.n<=1000000000:=by omega
       have AL:=zC nC;have HG:=zC hg;have nY:=zC (show (l.take (j + 1)).map Sh.l=(l.take j).map Sh.l ++ [t.l] by rw [List.take_add_one,hg,eG];rfl);have uK:=zC hEA;rw [hEA];clear hg nC hso hbd hEA;have hol:own'.length<=1000:=by omega
       go_wp2_with fail;clear jd xK;go_loopw [18,19] (λv18 v19 wh=>∃ k:Nat,v19=.int .i64 k/\k<=own'.length/\v18=.bool ((own'.take k).any λu=>A.part u.l t.l)/\af wj wh) (λ_ v19 _=>own'.length - (intOf v19).toNat)
       case atStart=>exact ⟨0,rfl,aW _,rfl,ai⟩
       case round =>
        obtain ⟨k,rfl,hk,rfl,rG⟩:=hrel;obtain ⟨wh,hwh⟩:=zB wr;rw [<-hwh] at rG;rw [<-hwh];clear hwh;by_cases hko:k < own'.length
        ·obtain ⟨k0,k1⟩:=zJ (a:=k) (b:=own'.length) (by omega);obtain ⟨kd,xM⟩:=zK (a:=k) (b:=own'.length) (by omega);obtain ⟨adO,u,BK,hu,⟨Ll,-,-⟩,cu⟩:=(hS2.below rG).at_ hko;have hun:=(uX u (zD hu)).1;have bH:=zC (Yx (p:=λu:Sh=>A.part u.l t.l) hu);obtain ⟨z,hz⟩:=zB ((own'.take k).any λu=>A.part u.l t.l);rw [<-hz] at bH ⊢;obtain ⟨z2,hz2⟩:=zB (A.part u.l t.l);have HZ2:=zC hz2;have HOA:=zC BK;have hIt:=hI.below rG;rw [BK];clear hz hz2 BK hu;have ht9:(hc:wj.cell? (gK.add j)=some (.slice t.A t.n t.c))=hc:=rfl;have ce:=(rG.cell (cell_lt hc)).trans hc;cases z
         ·have HQ:=zC (show ((own'.take (k + 1)).any λu=>A.part u.l t.l)=z2 by rw [bH.out,HZ2.out,Bool.false_or]);have CT:∀ i:ak wh,ay 80 #[.slice u.A u.n u.c,.slice t.A t.n t.c] i.val (bg i.val z2):=λi=>by
           rw [HZ2.out];exact adm u.A u.n u.c u.l t.A t.n t.c t.l i.val (Ll.below i.property) (by omega) (hIt.below i.property) (by omega)
          have q0:=ak.cell cu;have q1:=ak.cell ce;clear bH ht9;go_upto_region 27 with fail;refine fV (by kernel_rfl) (by kernel_rfl) ?_;repeat (go_big_quiet_step ((go_at_call 80;exact ak.calls (CT _))))
          refine wpQuiet_nil ?_;rintro w4 ⟨⟨w4,b4⟩,rfl⟩;have hb4:=bel rG b4;clear q0 q1 CT;go_wp2_with fail;go_roundw
          case rel=>(go_light;exact ⟨k + 1,by go_num,hko,by rw [HQ.out],hb4⟩)
          case measure=>(go_light;simp [intOf];omega)
         ·have HQ:=zC (show ((own'.take (k + 1)).any λu=>A.part u.l t.l)=true by rw [bH.out,Bool.true_or]);clear bH ht9 cu ce;go_upto_region 27 with fail;refine fV (by kernel_rfl) (by kernel_rfl) ?_;repeat (go_big_quiet_step (fail))
          refine wpQuiet_nil ?_;rintro w4 ⟨⟨w4,b4⟩,rfl⟩;have hb4:=bel rG b4;go_wp2_with fail;go_roundw
          case rel=>(go_light;exact ⟨k + 1,by go_num,hko,by rw [HQ.out],hb4⟩)
          case measure=>(go_light;simp [intOf];omega)
        obtain ⟨kd,xM⟩:=zL (a:=k) (b:=own'.length) (by omega);have hall:(own'.take k)=own':=fD (by omega);obtain ⟨z,hz⟩:=zB (own'.any λu=>A.part u.l t.l);rw [hall,<-hz];have HZ:=zC (show ((own'.map Sh.l).any λu=>A.part u t.l)=z by rw [hz,List.any_map];rfl);obtain ⟨wd,hwd⟩:=zB wh;rw [<-hwd] at rG;rw [<-hwd];clear hwd hz hall;have Md:=M.below rG;have t_:=hI.below rG;have ce:=(rG.cell (cell_lt hc)).trans hc;have hxd:eu wd x:=hxs.below Md.bw;have GK:=hxd.case DK.out;have hv4:K.bF (x.one sS).nd (x.one sS).l (x.one sS).s (x.one sS).r t.l=true->t.l.length<=4:=λ_=>QR;obtain ⟨Y,hY⟩:=zB (K.jF x.nd x.l sS x.r t.l);have HY:=zC hY;have FD:=zC (show FE t.l=(Y.2 == 0) by rw [HFV.out,hY]);have kV:=zC (show ∀ w',af wd w'->(Gl G0 x bP s sS gK j t) w' from λw' h=>by
         obtain ⟨a0,a1,a2,a3,a4,a5,a6,a7⟩:=aC.out w' (bel (bel hbr Md.bw) h);exact ⟨a0,a1,a2,a3,a4,a5,a6,a7,(h.cell (cell_lt ce)).trans ce⟩)
        have anG:=Md.bw.size;rw [sO.out];clear hY ce hko hk;have hbd0:af wd wd:=ai;have S0:=kV.out _ hbd0;have ba:af wd (wd.alloc (.cells #[.int .i64 0,.slice none 0 0,.slice none 0 0,.int .i64 0] 80)):=ai.alloc (zG _) _;have uP:=kV.out _ ba;have aQ:=kV.out _ hbd0.drew;have yJ:=kV.out _ ba.drew;have hAt:=λw' (h:af wd w')=>GK.below h;go_upto_region 28 with fail;go_cut [20,21] from 84 to 97 (λvp ve wc=>ve=.int .i64 Y.2/\af wd wc)
        case first =>
         go_region_held3 (Gl G0 x bP s sS gK j t)
          (with_reducible first | exact F_ | exact F8 | exact F7 | exact S1 | exact yJ | exact uP | exact aQ | exact S0 | fail)
          (first
           | (go_at_call 81;refine (XU (x.one sS) t.A t.n t.c t.l _ (hAt _ ?_) (t_.below ?_) IC hv4).mono ?_;(first | with_reducible exact hbd0 | with_reducible exact ba | with_reducible exact hbd0.drew | with_reducible exact ba.drew);(first | with_reducible exact hbd0 | with_reducible exact ba | with_reducible exact hbd0.drew | with_reducible exact ba.drew);rw [show K.jF (x.one sS).nd (x.one sS).l (x.one sS).s (x.one sS).r t.l=Y from HY.out.symm];rintro e w5 ⟨⟨A0,n0,c0,A1,n1,c1,rfl,hI0,hI1,hf0,hf1⟩,hbn⟩;(first | (have b5:=bel hbd0.drew hbn;have yP:=bel b5 (ai.alloc (zG _) (.cells #[.int .i64 0,.slice A0 n0 c0,.slice A1 n1 c1,.int .i64 Y.1.end_] 80));have F8:=kV.out _ yP;have F7:=kV.out _ (bel b5 (ai.alloc (zG _) (.cells #[.int .i64 0,.slice none 0 0,.slice none 0 0,.int .i64 0] 80)))) | (have b5:=bel ba.drew hbn;have fM:=au hbn (aA wd (.cells #[.int .i64 0,.slice none 0 0,.slice none 0 0,.int .i64 0] 80));have b9:=mX b5 (zG _) (.int .i64 0) (.slice A0 n0 c0) (.slice A1 n1 c1) (.int .i64 Y.1.end_);have F_:=kV.out _ b9;obtain ⟨t0,t1,t2,t3⟩:=jr.cells (h:=0) fM;have tf:=b_ fM));have S1:=kV.out _ b5)
           | fail)
         ·go_wp2_with fail;go_meet
          case rel=>(go_light;exact ⟨rfl,yP⟩)
         ·go_wp2_with fail;go_meet
          case rel=>(go_light;exact ⟨rfl,b9⟩)
        case rest =>
        obtain ⟨rfl,hbc⟩:=hcut;rw [<-sO.out];have M1:=Md.below hbc;have cE:=(hbc.cell (cell_lt ((rG.cell (cell_lt hc)).trans hc))).trans ((rG.cell (cell_lt hc)).trans hc);obtain ⟨wc',hwc'⟩:=zB wc;rw [<-hwc'] at M1 cE hbc;rw [<-hwc'];clear hwc' S0 uP aQ yJ hAt GK t_ ba hbd0 kd xM;by_cases hyes:z=false/\Y.2 ≠ 0;rotate_left
        ·have HN:=zC (A.U8 (ok:=FE) (own:=[]) (L:=A.upto x.m n ++ (l.take j).map Sh.l) (v:=t.l) (by
          cases z with
          | true=>exact .inl (by rw [<-hcI.out];exact HZ.out)
          | false=>exact .inr (by rw [FD.out];simp only [beq_iff_eq];exact Classical.byContradiction λe=>hyes ⟨rfl,e⟩)))
         have HC2:=zC (show own'.map Sh.l=A.gV FE [] (A.upto x.m n ++ (l.take (j + 1)).map Sh.l) by rw [nY.out,<-jb,HN.out];exact hcI.out);have hl2:own'.length<=own.length + (j + 1):=by omega
         go_upto_region 29 with fail;go_cut [103] from 98 to 103 (λamw wz=>amw=.bool false/\wz=wc')
         case first =>
          cases z
          ·have hy0:Y.2=0:=Classical.byContradiction λe=>hyes ⟨rfl,e⟩;have e1:(Y.2 != 0)=false:=by simp [hy0]
           clear hy0 hyes;go_wp2_with fail;go_meet;exact ⟨rfl,rfl⟩
          ·clear hyes;go_wp2_with fail;go_meet;exact ⟨rfl,rfl⟩
         case rest =>
         obtain ⟨rfl,hwz⟩:=hcut;rw [hwz];clear hwz hyes;go_wp2_with fail;go_roundw
         case rel=>(go_light;exact ⟨j + 1,own',by go_num,hjm,by first | exact M1 | (rw [<-uK.out];exact M1),nR,uX,hl2,HC2.out⟩)
         case measure=>(go_light;simp [intOf];omega)
        obtain ⟨hz0,hy0⟩:=hyes;subst hz0;have e1:(Y.2 != 0)=true:=by simp [bne,hy0]
        have HN:=zC (A.ab4 (ok:=FE) (own:=[]) (L:=A.upto x.m n ++ (l.take j).map Sh.l) (v:=t.l) (by rw [<-hcI.out];exact HZ.out) (by rw [FD.out];simpa using hy0));have HC2:=zC (show (own' ++ [t]).map Sh.l=A.gV FE [] (A.upto x.m n ++ (l.take (j + 1)).map Sh.l) by rw [nY.out,<-jb,HN.out,eG,hcI.out];rfl);have hl2:(own' ++ [t]).length<=own.length + (j + 1):=by rw [cZ,List.length_singleton];omega
        obtain ⟨w6,hw6⟩:=zB (wc'.alloc (.cells #[.slice t.A t.n t.c] 48));obtain ⟨g6,kK⟩:=zB wc'.heap.size;have b6:=aH hw6;have hL6:w6.heap[g6]? = some (.cells #[.slice t.A t.n t.c] 48 (0,0)):=by rw [hw6,kK];exact aA _ _
        have M3:=M1.below b6;have MI:BS<=w6.heap.size:=by rw [nX.out];exact M3.bw.size
        have Eu:own'.length<=1000000:=by omega
        clear M1 hy0;go_wp2_with (first
         | (at_builtin;rw [<-hw6,<-kK];refine Qj rfl _ _ rfl BS (.slice E2 own'.length c2) own'.length own' rfl M3.row g6 t rfl hL6 Eu MI ?_;intro v' w7 jO xB qC)
         | fail)
        have M4:=M3.app AL.out xB qC jO nX.out;go_roundw
        case rel=>(go_light;exact ⟨j + 1,own' ++ [t],by go_num,hjm,by first | exact M4 | (rw [<-uK.out];exact M4),nR.snoc (TM t AL.out),λy hy=>(dX.1 hy).elim (uX y) (λhy=>by rw [dB] at hy;rw [hy];exact ⟨h6,QR⟩),hl2,HC2.out⟩)
        case measure=>(go_light;simp [intOf];omega)
      ·obtain ⟨jd,xK⟩:=zL (a:=j) (b:=m) (by omega);have H_:l.take j=l:=fD (by have:=qW.out;omega);have HE:=zC (show own'.map Sh.l=A.gV FE [] (A.upto x.m (n + 1)) by rw [hcI.out,H_,Az.out,HD.out,Dz.out,A.upto_succ]);have hl2:own'.length<=64 * (n + 1):=by omega
       have hnn:n + 1<=x.m:=hnm;have DF:=zC (show ((N1:Int) + 1)=((n + 1 + 1:Nat):Int) by rw [Dz.out];push_cast;rfl);have ana:N1<=100:=by have:=Dz.out;omega
       clear H_;go_wp2_with fail;go_roundw
       case rel=>(go_light;exact ⟨n + 1,own',by rw [<-DF.out],hnn,M.row,M.ok,nR,uX,hl2,HE.out,M.bw⟩)
       case measure=>(go_light;simp [intOf];have:=Dz.out;omega)
    ·obtain ⟨k0,k0'⟩:=zN (a:=N1) (b:=x.m) (by omega);clear Lp;have aay:n=x.m:=by omega
     have HOWN:=zC (show own.map Sh.l=A.own FE x.m by rw [En.out,aay];rfl);obtain ⟨E,c,rfl,G8,hnc,jy⟩:=Df hownO rfl qH;have F0:yu w2 wk u12 B1 bl E own.length own:=⟨own_below hown uk,vF.below uk,bel hbr uk,G8,λh0 ad e e2=>(by have h1:=(gz hown _ e2).2;have h2:=jy ad e;have:=nX.out;omega),λt ht=>⟨(qH t ht).1,λh0 ad e e2=>(by have h1:=(gz hown _ e2).2;have h2:=xG t ht h0 ad e;have:=nX.out;omega)⟩⟩;have hol:own.length<=384:=by omega
     have yX:B1<=BS:=by rw [nX.out,HB1.out];exact hbr.size
     clear aay hownO qH G8 jy;go_wp2_with fail;clear k0 k0';go_loopw [12,22] (λv12 v22 wf=>∃ (j:Nat) (jS:List BV),v22=.int .i64 j/\j<=own.length/\yu w2 wf v12 B1 jS E own.length own/\Qc B1 jS/\Hid (jS.length=bl.length + j)/\Hid (jS.map BV.pr=bl.map BV.pr ++ (own.take j).map λt=>((s:Int),t.l,K.bG x.nd x.l sS x.r t.l))) (λ_ v22 _=>own.length - (intOf v22).toNat)
     case atStart=>exact ⟨0,bl,rfl,aW _,F0,hnb,rfl,by show _=_;rw [List.take_zero,List.map_nil,List.append_nil]⟩
     case round =>
      clear F0;obtain ⟨j,jS,rfl,hj,F,aax,hlb,hcb⟩:=hrel;obtain ⟨wf,hwf⟩:=zB wr;rw [<-hwf] at F;rw [<-hwf];clear hwf;by_cases hjn:j < own.length
      ·obtain ⟨gK,t,hEA,hg,⟨hI,hsc,hs0⟩,hc⟩:=F.sh.at_ hjn;obtain ⟨j0,j1⟩:=zJ (a:=j) (b:=own.length) (by omega);obtain ⟨jd,xK⟩:=zK (a:=j) (b:=own.length) (by omega);have hAt:At wf (x.one sS):=(hx2.below F.bw).case DK.out;have kV:=zC (show ∀ w',af wf w'->(Gl G0 x bP s sS gK j t) w' from λw' h=>by
        obtain ⟨a0,a1,a2,a3,a4,a5,a6,a7⟩:=aC.out w' (bel F.bw h);exact ⟨a0,a1,a2,a3,a4,a5,a6,a7,(h.cell (cell_lt hc)).trans hc⟩)
       have hW0:af wf wf:=ai;have lD:af wf wf.drew:=hW0.drew;have S0:=kV.out _ hW0;have aQ:=kV.out _ lD;have nC:=zD hg;obtain ⟨h6,QR⟩:=D8 t nC;have nY:=zC (show (own.take (j + 1)).map (λt=>((s:Int),t.l,K.bG x.nd x.l sS x.r t.l))=(own.take j).map (λt=>((s:Int),t.l,K.bG x.nd x.l sS x.r t.l)) ++ [((s:Int),t.l,K.bG x.nd x.l sS x.r t.l)] by rw [List.take_add_one,hg,eG];rfl);have TU:iT t.A t.n u12:=λh0 ad e=>(F.lk t nC).2 h0 ad e;have ahL:∀ g,Ft t.A t.n g->B1<=g:=λg e=>by
        obtain ⟨h0,ad,e1,rfl⟩:=e;have:=xG t nC h0 ad e1;omega
       have uK:=zC hEA;have QT:t.n<=1000000000:=by omega
       have hvl:t.l.length<=6:=by omega
       have hln:jS.length<=1000000:=by have:=hlb.out;omega
       have ah9:=F.bw.size;have GU:B1<=wf.heap.size:=by rw [HB1.out];exact ah9
       have NE:u12.ownBlock ≠ some (gK.add j).block:=λe=>by
        rw [add_block] at e;exact F.off (by omega) gK hEA e
       have aeB:=zC (show ∀ w',af w2 w'->w'.cell? (gK.add j)=some (.slice t.A t.n t.c)->(Gl G0 x bP s sS gK j t) w' from λw' h hc'=>by
        obtain ⟨a0,a1,a2,a3,a4,a5,a6,a7⟩:=aC.out w' h;exact ⟨a0,a1,a2,a3,a4,a5,a6,a7,hc'⟩)
       rw [hEA,sO.out];clear hg hEA nC;go_upto_region 34 with fail;clear jd xK
       go_region_held3 (Gl G0 x bP s sS gK j t)
        (with_reducible first | exact AU | exact DR | exact S9 | exact aQ | exact S0 | fail)
        (first
         | (go_at_call 82;refine (aa_ (x.one sS) t.A t.n t.c t.l _ (hAt.below lD) (hI.below lD) QT).mono ?_;rintro e w9 ⟨⟨LA,ln,lc,rfl,BF,BH⟩,b9⟩;have F9:=F.below (bel lD b9);have nK:B1<=w9.heap.size:=aN GU (bel lD b9).size;have a9:af w9 (w9.alloc (.cells #[.int .i64 (s:Int),.slice t.A t.n t.c,.slice LA ln lc] 90)):=ai.alloc (zG _) _;have Qo:=bel lD b9;have S9:=kV.out _ Qo;have yQ:=bel Qo a9;have DR:=kV.out _ yQ;have MQ:iT LA ln u12:=λh0 ad e e2=>(by have h1:=(gz F.row _ e2).2;have h2:=BH ad e;have h3:=lD.size;omega);have hll:ln<=384:=(by have h1:=BF.1;have h2:(K.bG x.nd x.l sS x.r t.l).length<=384:=K.abb hvl;have h3:ln=(K.bG x.nd x.l sS x.r t.l).length:=h1;omega))
         | (refine ad4 rfl (.tmp 117) (.tmp 135) rfl F9.row nK rfl w9.heap.size ⟨s,t.A,t.n,t.c,t.l,LA,ln,lc,K.bG x.nd x.l sS x.r t.l⟩ rfl a9 (aA w9 _) hln ?_;intro v' w10 Cf qF xA;have F10:=(F9.below a9).app HB1.out ⟨⟨(hI.below (bel lD b9)).below a9,aX.below BF a9⟩,TU,MQ,hsc,h6,hll⟩ qF xA Cf;have AU:=aeB.out w10 F10.bw (Qy DR.2.2.2.2.2.2.2.2 qF NE))
         | fail)
       have hnl:∀ g,Ft LA ln g->B1<=g:=λg e=>by
        obtain ⟨h0,ad,e1,rfl⟩:=e;have h1:=BH ad e1;have h2:wf.drew.heap.size=wf.heap.size:=rfl;omega
       have ahG:Qc B1 (jS ++ [⟨s,t.A,t.n,t.c,t.l,LA,ln,lc,K.bG x.nd x.l sS x.r t.l⟩]):=λy hy g e=>by
        rcases dX.1 hy with hy | hy
        ·exact aax y hy g e
        ·rw [dB.1 hy] at e;exact e.elim (ahL g) (hnl g)
       have bM:=zC (show (jS ++ [(⟨s,t.A,t.n,t.c,t.l,LA,ln,lc,K.bG x.nd x.l sS x.r t.l⟩:BV)]).length=bl.length + (j + 1) by rw [cZ,hlb.out];rfl);have sJ:=zC (show (jS ++ [(⟨s,t.A,t.n,t.c,t.l,LA,ln,lc,K.bG x.nd x.l sS x.r t.l⟩:BV)]).map BV.pr=bl.map BV.pr ++ (own.take (j + 1)).map λt=>((s:Int),t.l,K.bG x.nd x.l sS x.r t.l) by rw [nY.out,<-jb,<-hcb.out,eG];rfl);clear F F9 S0 aQ S9 DR AU BF BH a9 b9 Cf qF xA lD hAt hc hI Qo yQ nK MQ hll hW0;go_wp2_with fail;go_roundw
       case rel=>(go_light;exact ⟨j + 1,jS ++ [(⟨s,t.A,t.n,t.c,t.l,LA,ln,lc,K.bG x.nd x.l sS x.r t.l⟩:BV)],by go_num,hjn,by first | exact F10 | (rw [<-uK.out];exact F10),ahG,bM.out,sJ.out⟩)
       case measure=>(go_light;simp [intOf];omega)
      ·obtain ⟨jd,xK⟩:=zL (a:=j) (b:=own.length) (by omega);have Ia:own.take j=own:=fD (by omega);have bH:=zC (show jS.map BV.pr=K.wZ x.nd x.l x.ss x.r (s + 1) by
        rw [K.X4,<-hcl.out,hcb.out,Ia,<-aS.out,<-Aq.out,<-HOWN.out,List.map_map];congr 1;refine List.map_congr_left λt _=>?_;show _=((s:Int),t.l,_);rw [ku.out])
       have hl2:jS.length<=1000 * (s + 1):=by have:=hlb.out;omega
       clear Ia;go_wp2_with fail;go_roundw
       case rel=>(go_light;exact ⟨s + 1,jS,by go_num,hlt,F.row,F.ok,aax,hl2,bH.out,F.bw⟩)
       case measure=>(go_light;simp [intOf];omega)
abbrev Ba (w:World) (x:Cs) (q:Q) (gK:Addr) (j:Nat) (s:Sh):World->Prop:=λw':World=>aJ w' w.heap.size 0 x.nd/\bT w' w.heap.size 1 x.A x.n x.c/\bT w' w.heap.size 2 x.SA x.sn x.sc/\bT w' w.heap.size 3 x.B x.m x.d/\aJ w' (w.heap.size + 1) 0 q.node/\aJ w' (w.heap.size + 1) 1 q.room/\aJ w' (w.heap.size + 1) 2 q.a_/\aJ w' (w.heap.size + 1) 3 q.service/\aJ w' (w.heap.size + 1) 4 q.aI/\aJ w' (w.heap.size + 1) 5 q.aP/\bT w' (w.heap.size + 1) 6 q.A q.n q.c/\w'.cell? (gK.add j)=some (.slice s.A s.n s.c)
def DN (w:World) (x x':Cs) (o:Option (List Q)):Prop:=match o with
 | none=>x'=Cs.zero
 | some r=>∃ B m d L,x'=x.with_ B m d L/\dm w B m L/\L.map Q.bare=r.map Q.bare
def Xk (w w':World) (x:Cs) (R:Option (List Q) × K.An × Int) (e:Ending):Prop :=
 (∃ (x':Cs) (a:AV),e=.returned (.tuple #[.agg #[.int .i64 x'.nd,.slice x'.A x'.n x'.c,.slice x'.SA x'.sn x'.sc,.slice x'.B x'.m x'.d],.agg #[.bool a.acc,.slice a.PA a.pn a.pc,.slice a.VA a.vn a.vc,.slice a.RA a.rn a.rc],.int .i64 R.2.2])/\jZ w' a/\oI a/\a.an=R.2.1/\DN w' x x' R.1)/\af w w'
theorem Vp {w w':World} {x:Cs} {R:Option (List Q) × K.An × Int} {er:Int} (h:R=(none,K.An.zero,er)) (hb:af w w'):Xk w w' x R (.returned (.tuple #[.agg #[.int .i64 0,.slice none 0 0,.slice none 0 0,.slice none 0 0],.agg #[.bool false,.slice none 0 0,.slice none 0 0,.slice none 0 0],.int .i64 er])):=by
 subst h;exact ⟨⟨Cs.zero,AV.zero,rfl,E8 w',Fa,rfl,rfl⟩,hb⟩
theorem YL {α:Type} {p:α->Bool}:∀ {l:List α} {j:Nat} {s:α},l[j]? = some s->p s=true->(∀ y ∈ l.take j,p y=false)->l.find? p=some s
 | [],_,_,h,_,_=>by simp at h
 | a :: l,0,s,h,hp,_=>by
  simp at h;subst h;rw [List.find?_cons_of_pos hp]
 | a :: l,j + 1,s,h,hp,hn=>by
  have ha:p a=false:=hn a (by simp);rw [List.find?_cons_of_neg (by rw [ha];decide)];exact YL (by simpa using h) hp (λy hy=>hn y (by simp [hy]))
theorem dm.alK {w:World} {A:aj} {n:Nat} {l:List Q} (h:dm w A n l) (M:List (Addr × Value)) (hA:∀ ad,A=some ad->∀ p ∈ M,p.1.block ≠ ad.block) (hl:∀ q ∈ l,0 < q.n->∀ ad,q.A=some ad->∀ p ∈ M,p.1.block ≠ ad.block):dm (Sets w M) A n l :=
 ⟨h.1,h.2.1.sets M (λ_ ad e p hp=>hA ad e p hp),λq hq=>⟨(h.2.2 q hq).1,(h.2.2 q hq).2.sets M (λh0 ad e p hp=>hl q hq h0 ad e p hp)⟩⟩
theorem Jc (tmps:Array Value) (wz:World) (a b:Nat) (y0 y1 y2 y3 z0 z1 z2 z3:Value) (er:Int) (h4:tmps.getD 4 undef=.pointer (some ⟨a,0,none⟩)) (h5:tmps.getD 5 undef=.pointer (some ⟨b,0,none⟩)) (h6:tmps.getD 6 undef=.int .i64 er)
  (ha:wz.heap[a]? = some (.cells #[y0,y1,y2,y3] 44 (0,0))) (hb:wz.heap[b]? = some (.cells #[z0,z1,z2,z3] 50 (0,0))) :
  (results Tryz.f34 tmps).run Tryz.prog wz=.ok (.tuple #[.agg #[y0,y1,y2,y3],.agg #[z0,z1,z2,z3],.int .i64 er]) wz:=by
 have c0:=ah ha 0 y0 rfl;have c1:=ah ha 1 y1 rfl;have c2:=ah ha 2 y2 rfl;have c3:=ah ha 3 y3 rfl;have d0:=ah hb 0 z0 rfl;have d1:=ah hb 1 z1 rfl;have d2:=ah hb 2 z2 rfl;have d3:=ah hb 3 z3 rfl;rw [acU (fn:=Tryz.f34) rfl,h4,h5,h6];simp [go_sem,c0,c1,c2,c3,d0,d1,d2,d3]
theorem akh (x:Cs) (q:Q) (w:World) (hx:lI w x q) (hm4:x.m<=6->x.m + 1<=4) :
  ay 34 #[lm x,iL q] w λe w'=>Xk w w' x (K.dL x.nd x.l x.ss x.r q) e:=by
 obtain ⟨w0,hw0⟩:=zB (w.alloc (.cells #[.int .i64 x.nd,.slice x.A x.n x.c,.slice x.SA x.sn x.sc,.slice x.B x.m x.d] 44));have z0:w0.heap.size=w.heap.size + 1:=by rw [hw0];exact aF _ _
 have b0:=aH hw0;have hN0:iY w0 w.heap.size x:=by rw [hw0];exact iY.new _ _
 obtain ⟨w1,hw1⟩:=zB (w0.alloc (.cells #[.int .i64 q.node,.int .i64 q.room,.int .i64 q.a_,.int .i64 q.service,.int .i64 q.aI,.int .i64 q.aP,.slice q.A q.n q.c] 47));have z1:w1.heap.size=w.heap.size + 1 + 1:=by rw [hw1,aF,z0]
 have b1:=aH hw1;have hB1:dV w1 (w.heap.size + 1) q:=by rw [hw1,<-z0];exact dV.new _ _
 obtain ⟨w2,hw2⟩:=zB (w1.alloc (.cells #[.int .i64 0,.slice none 0 0,.slice none 0 0,.slice none 0 0] 44));have z2:w2.heap.size=w.heap.size + 1 + 1 + 1:=by rw [hw2,aF,z1]
 have b2:=aH hw2;have hA2:w2.heap[w.heap.size + 1 + 1]? = some (.cells #[.int .i64 0,.slice none 0 0,.slice none 0 0,.slice none 0 0] 44 (0,0)):=by rw [hw2,<-z1];exact aA _ _
 obtain ⟨w3,hw3⟩:=zB (w2.alloc (.cells #[.bool false,.slice none 0 0,.slice none 0 0,.slice none 0 0] 50));have z3:w3.heap.size=w.heap.size + 1 + 1 + 1 + 1:=by rw [hw3,aF,z2]
 have b3:=aH hw3;have hA3:w3.heap[w.heap.size + 1 + 1 + 1]? = some (.cells #[.bool false,.slice none 0 0,.slice none 0 0,.slice none 0 0] 50 (0,0)):=by rw [hw3,<-z2];exact aA _ _
 have bQ:=bel b2 b3;have b13:=bel b1 bQ;have hb3:=bel b0 b13;have h03:=hb3.size;have aC:=zC (show ∀ w',af w3 w'->(pK w x q) w' from λw' h=>BQ.mk' ((hN0.below b13).below h) ((hB1.below bQ).below h));have sU:=zC (show ∀ w',af w3 w'->w'.heap[w.heap.size + 1 + 1]? = some (.cells #[.int .i64 0,.slice none 0 0,.slice none 0 0,.slice none 0 0] 44 (0,0))/\w'.heap[w.heap.size + 1 + 1 + 1]? = some (.cells #[.bool false,.slice none 0 0,.slice none 0 0,.slice none 0 0] 50 (0,0)) from λw' h=>⟨au h (au b3 hA2),au h hA3⟩);have hx3:=hx.below hb3;have aS:=zC hx.cs.bf.1;have Ig:=hx.m;have CP:=Ol x w3 hx3.cs (λh=>by have h1:=(K.kT h).2.2.2.2;have h2:=aS.out;have h3:=hm4 (by omega);omega);obtain ⟨R,hR⟩:=zB (K.dL x.nd x.l x.ss x.r q);have HR:=zC hR;obtain ⟨e1,he1⟩:=zB ((K.plan x.nd x.l x.ss x.r).2);have Fv:=zC he1;obtain ⟨p0,p1,p2,p3,c0,c1,c2,c3,c4,c5,c6⟩:=aC.out w3 ai;rw [<-hR];go_enter Tryz.func34,Tryz.ntmps34;rw [hw3,hw2,hw1,hw0] at p0 p1 p2 p3;go_wp2_with fail;rw [<-hw0,<-hw1,<-hw2,<-hw3];clear hw0 hw1 hw2 hw3 z0 z1 z2 b0 b1 b2 b3 bQ b13 hN0 hB1 hA2 hA3 p0 p1 p2 p3 c0 c1 c2 c3 c4 c5 c6 hR;refine CP.mono ?_;rintro e w4 ⟨⟨PA,pn,pc,pl,rfl,-,-,-,-⟩,b4⟩;rw [<-he1];clear CP he1;have hb4:=bel hb3 b4;by_cases h1:e1=0;rotate_left
 ·have HX:=zC (show R=(none,K.An.zero,1) by rw [HR.out];unfold K.dL;rw [if_pos (.inl (by rw [<-Fv.out];exact h1))]);have d1:(e1 != 0)=true:=by simp [bne,h1]
  obtain ⟨hz2,hz3⟩:=sU.out w4 b4;have f2:=b_ hz2;have f3:=b_ hz3;obtain ⟨y0,y1,y2,y3⟩:=gX hz2;obtain ⟨v0,v1,v2,v3⟩:=gX hz3;go_wp2_with fail;obtain ⟨Ms,hMs⟩:∃ Ms:List (Addr × Value),Ms=[(⟨w.heap.size + 1 + 1,0,none⟩,.int .i64 0),(⟨w.heap.size + 1 + 1,1,none⟩,.slice none 0 0),(⟨w.heap.size + 1 + 1,2,none⟩,.slice none 0 0),(⟨w.heap.size + 1 + 1,3,none⟩,.slice none 0 0),(⟨w.heap.size + 1 + 1 + 1,0,none⟩,.bool false),(⟨w.heap.size + 1 + 1 + 1,1,none⟩,.slice none 0 0),(⟨w.heap.size + 1 + 1 + 1,2,none⟩,.slice none 0 0),(⟨w.heap.size + 1 + 1 + 1,3,none⟩,.slice none 0 0)]:=⟨_,rfl⟩;have iW:∀ p ∈ Ms,p.1.block=w.heap.size + 1 + 1\/p.1.block=w.heap.size + 1 + 1 + 1:=λp hp=>by rw [hMs] at hp;exact su hp
  obtain ⟨wz,hwz⟩:=zB (Sets w4 Ms);have eP:=vW hz2 hz3 (by omega) (.int .i64 0) (.slice none 0 0) (.slice none 0 0) (.slice none 0 0) (.bool false) (.slice none 0 0) (.slice none 0 0) (.slice none 0 0);rw [<-hMs,<-hwz] at eP;have hbz:af w wz:=by rw [hwz];exact hb4.trans (Sets.below Ms _ _ ai (λp hp=>by rcases iW p hp with e | e <;> rw [e] <;> omega))
  have iP:=hwz;simp only [hMs,Sets] at iP;rw [<-iP];refine jc (v:=.tuple #[.agg #[.int .i64 0,.slice none 0 0,.slice none 0 0,.slice none 0 0],.agg #[.bool false,.slice none 0 0,.slice none 0 0,.slice none 0 0],.int .i64 1]) (Jc _ wz (w.heap.size + 1 + 1) (w.heap.size + 1 + 1 + 1) (.int .i64 0) (.slice none 0 0) (.slice none 0 0) (.slice none 0 0) (.bool false) (.slice none 0 0) (.slice none 0 0) (.slice none 0 0) 1 rfl rfl rfl eP.1 eP.2) rfl ?_;exact Vp HX.out hbz
 have d1:(e1 != 0)=false:=by simp [h1]
 have d0:decide (e1=0)=true:=by simp [h1]
 obtain ⟨p0,p1,p2,p3,c0,c1,c2,c3,c4,c5,c6⟩:=aC.out _ b4;have CF:=ac5 x.nd x.A x.n x.c q w4 (hx3.below b4).req (by have:=hx.q;omega);obtain ⟨z,hz⟩:=zB (K.jw x.nd q);rw [<-hz] at CF;have HZ:=zC hz;clear hz;go_wp2_with fail;refine CF.mono ?_;rintro e w5 ⟨rfl,b5⟩;clear CF d0 d1;clear p0 p1 p2 p3 c0 c1 c2 c3 c4 c5 c6;have bJ:=bel b4 b5;have hb5:=bel hb3 bJ;cases z
 ·have HX:=zC (show R=(none,K.An.zero,1) by rw [HR.out];unfold K.dL;rw [if_pos (.inr HZ.out.symm)]);obtain ⟨hz2,hz3⟩:=sU.out _ bJ;have f2:=b_ hz2;have f3:=b_ hz3;obtain ⟨y0,y1,y2,y3⟩:=gX hz2;obtain ⟨v0,v1,v2,v3⟩:=gX hz3;go_wp2_with fail;obtain ⟨Ms,hMs⟩:∃ Ms:List (Addr × Value),Ms=[(⟨w.heap.size + 1 + 1,0,none⟩,.int .i64 0),(⟨w.heap.size + 1 + 1,1,none⟩,.slice none 0 0),(⟨w.heap.size + 1 + 1,2,none⟩,.slice none 0 0),(⟨w.heap.size + 1 + 1,3,none⟩,.slice none 0 0),(⟨w.heap.size + 1 + 1 + 1,0,none⟩,.bool false),(⟨w.heap.size + 1 + 1 + 1,1,none⟩,.slice none 0 0),(⟨w.heap.size + 1 + 1 + 1,2,none⟩,.slice none 0 0),(⟨w.heap.size + 1 + 1 + 1,3,none⟩,.slice none 0 0)]:=⟨_,rfl⟩;have iW:∀ p ∈ Ms,p.1.block=w.heap.size + 1 + 1\/p.1.block=w.heap.size + 1 + 1 + 1:=λp hp=>by rw [hMs] at hp;exact su hp
  obtain ⟨wz,hwz⟩:=zB (Sets w5 Ms);have eP:=vW hz2 hz3 (by omega) (.int .i64 0) (.slice none 0 0) (.slice none 0 0) (.slice none 0 0) (.bool false) (.slice none 0 0) (.slice none 0 0) (.slice none 0 0);rw [<-hMs,<-hwz] at eP;have hbz:af w wz:=by rw [hwz];exact hb5.trans (Sets.below Ms _ _ ai (λp hp=>by rcases iW p hp with e | e <;> rw [e] <;> omega))
  have iP:=hwz;simp only [hMs,Sets] at iP;rw [<-iP];refine jc (v:=.tuple #[.agg #[.int .i64 0,.slice none 0 0,.slice none 0 0,.slice none 0 0],.agg #[.bool false,.slice none 0 0,.slice none 0 0,.slice none 0 0],.int .i64 1]) (Jc _ wz (w.heap.size + 1 + 1) (w.heap.size + 1 + 1 + 1) (.int .i64 0) (.slice none 0 0) (.slice none 0 0) (.slice none 0 0) (.bool false) (.slice none 0 0) (.slice none 0 0) (.slice none 0 0) 1 rfl rfl rfl eP.1 eP.2) rfl ?_;exact Vp HX.out hbz
 have PK:=zC (show (K.plan x.nd x.l x.ss x.r).2=0 by rw [<-Fv.out];exact h1);have iq:=zC (show ¬ ((K.plan x.nd x.l x.ss x.r).2 ≠ 0\/K.jw x.nd q=false) from λh=>h.elim (λh=>h PK.out) (λh=>by rw [<-HZ.out] at h;cases h));by_cases h6:6<=x.m
 ·have HX:=zC (show R=(none,K.An.zero,6) by rw [HR.out];unfold K.dL;rw [if_neg iq.out,if_pos (by rw [<-aS.out];exact h6)]);have d1:decide ((6:Int)<=(x.m:Int))=true:=by simp;omega
  have d2:decide (6<=x.m)=true:=by simp;omega
  obtain ⟨p0,p1,p2,p3,c0,c1,c2,c3,c4,c5,c6⟩:=aC.out _ bJ;obtain ⟨hz2,hz3⟩:=sU.out _ bJ;have f2:=b_ hz2;have f3:=b_ hz3;obtain ⟨y0,y1,y2,y3⟩:=gX hz2;obtain ⟨v0,v1,v2,v3⟩:=gX hz3;go_wp2_with fail;obtain ⟨Ms,hMs⟩:∃ Ms:List (Addr × Value),Ms=[(⟨w.heap.size + 1 + 1,0,none⟩,.int .i64 0),(⟨w.heap.size + 1 + 1,1,none⟩,.slice none 0 0),(⟨w.heap.size + 1 + 1,2,none⟩,.slice none 0 0),(⟨w.heap.size + 1 + 1,3,none⟩,.slice none 0 0),(⟨w.heap.size + 1 + 1 + 1,0,none⟩,.bool false),(⟨w.heap.size + 1 + 1 + 1,1,none⟩,.slice none 0 0),(⟨w.heap.size + 1 + 1 + 1,2,none⟩,.slice none 0 0),(⟨w.heap.size + 1 + 1 + 1,3,none⟩,.slice none 0 0)]:=⟨_,rfl⟩;have iW:∀ p ∈ Ms,p.1.block=w.heap.size + 1 + 1\/p.1.block=w.heap.size + 1 + 1 + 1:=λp hp=>by rw [hMs] at hp;exact su hp
  obtain ⟨wz,hwz⟩:=zB (Sets w5 Ms);have eP:=vW hz2 hz3 (by omega) (.int .i64 0) (.slice none 0 0) (.slice none 0 0) (.slice none 0 0) (.bool false) (.slice none 0 0) (.slice none 0 0) (.slice none 0 0);rw [<-hMs,<-hwz] at eP;have hbz:af w wz:=by rw [hwz];exact hb5.trans (Sets.below Ms _ _ ai (λp hp=>by rcases iW p hp with e | e <;> rw [e] <;> omega))
  have iP:=hwz;simp only [hMs,Sets] at iP;rw [<-iP];refine jc (v:=.tuple #[.agg #[.int .i64 0,.slice none 0 0,.slice none 0 0,.slice none 0 0],.agg #[.bool false,.slice none 0 0,.slice none 0 0,.slice none 0 0],.int .i64 6]) (Jc _ wz (w.heap.size + 1 + 1) (w.heap.size + 1 + 1 + 1) (.int .i64 0) (.slice none 0 0) (.slice none 0 0) (.slice none 0 0) (.bool false) (.slice none 0 0) (.slice none 0 0) (.slice none 0 0) 6 rfl rfl rfl eP.1 eP.2) rfl ?_;exact Vp HX.out hbz
 have d1:decide ((6:Int)<=(x.m:Int))=false:=by simp;omega
 have d2:decide (6<=x.m)=false:=by simp;omega
 have hm1:x.m + 1<=4:=hm4 (by omega);obtain ⟨p0,p1,p2,p3,c0,c1,c2,c3,c4,c5,c6⟩:=aC.out _ bJ;have yB:=zC (show ∀ i ∈ K.iota x.m,0<=i/\i < (x.r.length:Int) from λi hi=>by have:=K.zY.1 hi;have:=aS.out;omega);have CA:=XC x.m (by omega) w5;go_wp2_with fail;refine CA.mono ?_;rintro e w6 ⟨⟨V6,k6,rfl,dS,hk6,Bv⟩,b6⟩;clear d1 d2 CA p0 p1 p2 p3 c0 c1 c2 c3 c4 c5 c6;have dR:=bel bJ b6;have hbd:af w6 w6.drew:=ai.drew;have Qm:=bel dR hbd;have S0:=aC.out _ dR;have aQ:=aC.out _ Qm;have hx6:=hx3.below Qm;have zQ:x.m<=1000:=by omega
 have vK:x.m + 1<=1000000:=by omega
 go_upto_region 7 with fail
 go_region_held3 (pK w x q)
  (with_reducible first | exact S2 | exact S1 | exact aQ | exact S0 | fail)
  (first
   | (go_at_call 101;refine (EX x.B x.m x.d x.r V6 x.m k6 (K.iota x.m) q _ hx6.cs.bf (dS.below hbd) yB.out hx6.req zQ).mono ?_;rintro e w7 ⟨⟨A7,k7,rfl,hL7,Es,uY⟩,b7⟩;have fJ:=bel Qm b7;have S1:=aC.out _ fJ)
   | (go_at_call 21;refine (Ol (x.with_ A7 (x.m + 1) k7 (K.dD x.r (K.iota x.m) q)) _ (hx6.case b7 hL7 rfl vK) (λ_=>hm1)).mono ?_;rintro e w8 ⟨⟨PB,bn,bc,pb,rfl,xw,Io,LD,BI⟩,b8⟩;have je:=bel fJ b8;have S2:=aC.out _ je)
   | fail)
 obtain ⟨P,hP⟩:=zB (K.plan x.nd x.l x.ss (x.r ++ [q]));have hz:K.plan (x.with_ A7 (x.m + 1) k7 (K.dD x.r (K.iota x.m) q)).nd (x.with_ A7 (x.m + 1) k7 (K.dD x.r (K.iota x.m) q)).l (x.with_ A7 (x.m + 1) k7 (K.dD x.r (K.iota x.m) q)).ss (x.with_ A7 (x.m + 1) k7 (K.dD x.r (K.iota x.m) q)).r=P:=by
  rw [hP,<-K.Di,<-aS.out];rfl
 rw [hz] at Io ⊢;have HP:=zC hP;have WJ:=zC Io;have hb8:=bel hb3 je;have Bl:=fJ.size;have GX:=((dS.below hbd).below b7).below b8;clear hP hz Io S0 aQ S1 hbd dS;obtain ⟨f,hf⟩:=zB P.2;rw [<-hf];have HF:=zC hf;clear hf;by_cases h2:f=0
 ·have d1:(f == 0)=true:=by simp [h2]
  have d2:decide (f=0)=true:=by simp [h2]
  have HX:=zC (show R=(some (x.r ++ [q]),⟨true,P.1.map λt=>((t.1:Int),t.2),[],[]⟩,0) by rw [HR.out];unfold K.dL;rw [if_neg iq.out,if_neg (by rw [<-aS.out];exact h6),if_pos (by rw [<-HP.out,<-HF.out];exact h2),HP.out]);have OZ:=zC (show K.checks x.nd x.l x.ss (x.r ++ [q]) (P.1.map λt=>((t.1:Int),t.2))=0 by
   have h9:=HF.out;rw [h2,HP.out] at h9;rw [HP.out];exact K.Vk h9.symm)
  have HWN:=zC (show ∀ p ∈ K.dD x.r (K.iota x.m) q,0 < p.n->∀ ad,p.A=some ad->ad.block < w.heap.size from λp hp h0 ad e=>by
   rw [aS.out,K.Di] at hp;rcases dX.1 hp with hp | hp
   ·exact (hx.cs.bf.2.2 p hp).nD h0 e
   ·rw [dB.1 hp] at h0 e;exact hx.req.nD h0 e)
  obtain ⟨p0,p1,p2,p3,c0,c1,c2,c3,c4,c5,c6⟩:=S2;obtain ⟨w9,o7⟩:=zB (w8.alloc (.cells #[.int .i64 x.nd,.slice x.A x.n x.c,.slice x.SA x.sn x.sc,.slice x.B x.m x.d] 44));obtain ⟨g9,pY⟩:=zB w8.heap.size;have b9:=aH o7;have hN9:iY w9 g9 x:=by rw [o7,pY];exact iY.new _ _
  have lW:w9.heap.size=g9 + 1:=by rw [o7,pY];exact aF _ _
  go_upto_region 10 with fail;rw [<-o7,<-pY];clear o7 p0 p1 p2 p3 c0 c1 c2 c3 c4 c5 c6 d1 d2;have JE:=zC pY;have wK:=zC lW;clear pY lW;have sZ:=bel je b9;obtain ⟨p0,p1,p2,p3,c0,c1,c2,c3,c4,c5,c6⟩:=aC.out _ sZ;have EJ:=hx3.below sZ;have CS:=EX x.B x.m x.d x.r V6 x.m k6 (K.iota x.m) q w9 EJ.cs.bf (GX.below b9) yB.out EJ.req zQ;go_wp2_with fail;refine CS.mono ?_;rintro e w10 ⟨⟨uF,k10,rfl,Lm,hk10,hA10⟩,b10⟩;clear CS p0 p1 p2 p3 c0 c1 c2 c3 c4 c5 c6;have ae':=bel sZ b10;have Rx:w10.heap[g9]? = some (.cells #[.int .i64 x.nd,.slice x.A x.n x.c,.slice x.SA x.sn x.sc,.slice x.B x.m x.d] 44 (0,0)):=hN9.below b10;have f9:=b_ Rx;have y9:=ah Rx 3 _ rfl;obtain ⟨vZ,EG⟩:=zB (w10.setCell ⟨g9,3,none⟩ (.slice uF (x.m + 1) k10));have ag2:vZ.heap[g9]? = some (.cells #[.int .i64 x.nd,.slice x.A x.n x.c,.slice x.SA x.sn x.sc,.slice uF (x.m + 1) k10] 44 (0,0)):=by rw [EG];exact di Rx 3 _
  have b11:af w3 vZ:=by rw [EG];exact ae'.setCell (by rw [JE.out];exact je.size) _
  have Qn:af w8 vZ:=by rw [EG];exact (bel b9 b10).setCell (by rw [JE.out];exact zG _) _
  go_upto_region 11 with fail;rw [<-EG];have aeF:=zC EG;clear EG f9 y9;obtain ⟨u0,u1,u2,u3⟩:=gX ag2;obtain ⟨hz2,hz3⟩:=sU.out _ b11;have f2:=b_ hz2;have f3:=b_ hz3;obtain ⟨y0,y1,y2,y3⟩:=gX hz2;obtain ⟨v0,v1,v2,v3⟩:=gX hz3;go_wp2_with fail;obtain ⟨Ms,hMs⟩:∃ Ms:List (Addr × Value),Ms=[(⟨w.heap.size + 1 + 1,0,none⟩,.int .i64 x.nd),(⟨w.heap.size + 1 + 1,1,none⟩,.slice x.A x.n x.c),(⟨w.heap.size + 1 + 1,2,none⟩,.slice x.SA x.sn x.sc),(⟨w.heap.size + 1 + 1,3,none⟩,.slice uF (x.m + 1) k10),(⟨w.heap.size + 1 + 1 + 1,0,none⟩,.bool true),(⟨w.heap.size + 1 + 1 + 1,1,none⟩,.slice PB bn bc),(⟨w.heap.size + 1 + 1 + 1,2,none⟩,.slice none 0 0),(⟨w.heap.size + 1 + 1 + 1,3,none⟩,.slice none 0 0)]:=⟨_,rfl⟩;have iW:∀ p ∈ Ms,p.1.block=w.heap.size + 1 + 1\/p.1.block=w.heap.size + 1 + 1 + 1:=λp hp=>by rw [hMs] at hp;exact su hp
  obtain ⟨wz,hwz⟩:=zB (Sets vZ Ms);have eP:=vW hz2 hz3 (by omega) (.int .i64 x.nd) (.slice x.A x.n x.c) (.slice x.SA x.sn x.sc) (.slice uF (x.m + 1) k10) (.bool true) (.slice PB bn bc) (.slice none 0 0) (.slice none 0 0);rw [<-hMs,<-hwz] at eP;have ahc:=bel hb3 b11;have hbz:af w wz:=by rw [hwz];exact ahc.trans (Sets.below Ms _ _ ai (λp hp=>by rcases iW p hp with e | e <;> rw [e] <;> omega))
  have mG:∀ p ∈ Ms,p.1.block < w3.heap.size:=λp hp=>by rcases iW p hp with e | e <;> rw [e] <;> omega
  have He:ja wz PB bn pb:=by
   rw [hwz];exact ⟨aX.sets (xw.below Qn).1 Ms (λh0 ad e p hp=>by have h1:=LD ad.block ⟨h0,ad,e,rfl⟩;have h2:=mG p hp;omega),λy hy=>⟨((xw.below Qn).2 y hy).1.sets Ms (λh0 ad e p hp=>by have h1:=BI y hy ad.block (.inl ⟨h0,ad,e,rfl⟩);have h2:=mG p hp;omega),((xw.below Qn).2 y hy).2.sets Ms (λh0 ad e p hp=>by have h1:=BI y hy ad.block (.inr ⟨h0,ad,e,rfl⟩);have h2:=mG p hp;omega)⟩⟩
  have ah':wz=Sets w10 ((⟨g9,3,none⟩,.slice uF (x.m + 1) k10) :: Ms):=by rw [hwz,aeF.out];rfl
  have h9s:=je.size;have BM:dm wz uF (x.m + 1) (K.dD x.r (K.iota x.m) q):=by
   rw [ah'];refine Lm.alK _ (λad e p hp=>?_) (λy hy h0 ad e p hp=>?_)
   ·have h1:=hA10 ad e;have h2:=wK.out;rcases dw.1 hp with rfl | hp
    ·show g9 ≠ _;omega
    ·have h3:=mG p hp;have h4:=JE.out;omega
   ·have h1:=HWN.out y hy h0 ad e;rcases dw.1 hp with rfl | hp
    ·have h4:=JE.out;show g9 ≠ _;omega
    ·rcases iW p hp with e | e <;> omega
  have iP:=hwz;simp only [hMs,Sets] at iP;rw [<-iP];refine jc (v:=.tuple #[.agg #[.int .i64 x.nd,.slice x.A x.n x.c,.slice x.SA x.sn x.sc,.slice uF (x.m + 1) k10],.agg #[.bool true,.slice PB bn bc,.slice none 0 0,.slice none 0 0],.int .i64 0]) (Jc _ wz (w.heap.size + 1 + 1) (w.heap.size + 1 + 1 + 1) (.int .i64 x.nd) (.slice x.A x.n x.c) (.slice x.SA x.sn x.sc) (.slice uF (x.m + 1) k10) (.bool true) (.slice PB bn bc) (.slice none 0 0) (.slice none 0 0) 0 rfl rfl rfl eP.1 eP.2) rfl ?_;have hft:Am bn pb:=YH He (by have h9:=K.Yh OZ.out;rw [<-WJ.out] at h9;rw [bu] at h9;exact h9);refine ⟨⟨x.with_ uF (x.m + 1) k10 (K.dD x.r (K.iota x.m) q),⟨true,PB,bn,bc,pb,none,0,0,[],none,0,0,[]⟩,by rw [HX.out];rfl,⟨He,iQ _,(E8 wz).b⟩,⟨hft,aW _,Fa.fb⟩,?_,?_⟩,hbz⟩
  ·rw [HX.out];unfold AV.an;dsimp only;rw [WJ.out];rfl
  ·rw [HX.out];exact ⟨uF,x.m + 1,k10,_,rfl,BM,by rw [aS.out,K.Di]⟩
 ·obtain ⟨h4,v0,Iy,hask⟩:=K.XI iq.out (by rw [<-aS.out];exact h6) (by rw [<-HP.out,<-HF.out];exact h2);have HX:=zC (show R=(some x.r,⟨false,[],v0,(K.refute x.nd x.l x.ss (K.dD x.r v0 q)).1.map λb=>((b.1:Int),b.2)⟩,0) by rw [HR.out];exact hask);have d1:(f == 0)=false:=by simp [h2]
  have d2:decide (f=0)=false:=by simp [h2]
  have PU:=zC Iy;clear Iy hask h4 S2;go_wp2_with fail;clear d1 d2;go_loopw [12] (λv12 wr=>∃ k:Nat,v12=.int .i64 (k:Int)/\k<=x.m + 1/\Hid (K.kU x.nd x.l x.ss x.r q (x.m + 1 - k) k=some v0)/\af w8 wr) (λv12 _=>x.m + 1 - (intOf v12).toNat)
  case atStart=>exact ⟨0,rfl,aW _,by show _=_;rw [Nat.sub_zero,aS.out];exact PU.out,ai⟩
  case round =>
   obtain ⟨k,rfl,hk,hsm,hbr⟩:=hrel;by_cases hlt:k<=x.m;rotate_left
   ·exfalso;have h9:=hsm.out;rw [show x.m + 1 - k=0 by omega] at h9;cases h9
   obtain ⟨d1,d2⟩:=zM (a:=k) (b:=x.m) (by omega);have CS:=alJ x.m (by omega) k 0 wr (by omega) (aW _);rw [show ((0:Nat):Int)=0 from rfl] at CS;go_wp2_with fail;refine CS.mono ?_;rintro e w9 ⟨⟨E,mm,c,l,rfl,hSl,hmc,iJ,jy,hln⟩,b9⟩;have V_:=zC (show K.iC x.nd x.l x.ss x.r q [] k 0=(l.map Sh.l).find? (K.kH x.nd x.l x.ss x.r q) by
    unfold K.iC;rw [<-aS.out,iJ];simp)
   have HST:=zC (show (K.iC x.nd x.l x.ss x.r q [] k 0).or (K.kU x.nd x.l x.ss x.r q (x.m + 1 - (k + 1)) (k + 1))=some v0 by
    rw [<-K.adY,show x.m + 1 - (k + 1) + 1=x.m + 1 - k by omega];exact hsm.out)
   have Az:=zC iJ;have hmm:mm<=64:=by rw [hSl.1.1,<-bu (f:=Sh.l),iJ];exact A.DZ (by omega) (by omega) (by omega)
   have sZ:=bel (bel je hbr) b9;have vG:=bel hbr b9;have Ul:w3.heap.size<=wr.heap.size:=(bel je hbr).size;have HEN:=zC (show ∀ ad,E=some ad->w3.heap.size<=ad.block from λad e=>aN Ul (jy ad e));have bM:=zC (show ∀ s ∈ l,0 < s.n->∀ ad,s.A=some ad->w3.heap.size<=ad.block from λs hs h0 ad e=>aN Ul (hln s hs h0 ad e));clear CS iJ hsm d1 d2 hbr b9 jy hln Ul;go_wp2_with fail;go_loopw [14] (λv14 wr=>∃ j:Nat,v14=.int .i64 (j:Int)/\j<=mm/\Hid (∀ s ∈ l.take j,K.kH x.nd x.l x.ss x.r q s.l=false)/\af w9 wr) (λv14 _=>mm - (intOf v14).toNat)
   case atStart=>exact ⟨0,rfl,aW _,(λs hs=>(by cases hs)),ai⟩
   case round =>
    obtain ⟨j,rfl,hj,hno,hbj⟩:=hrel;have Qp:=bel sZ hbj;by_cases hjm:j < mm
    ·obtain ⟨gK,s,hEA,hg,⟨hsI,hsc,hs0⟩,hc⟩:=(hSl.below hbj).at_ hjm;have jV:s.l ∈ A.dM x.m k 0:=by rw [<-Az.out];exact List.mem_map_of_mem (zD hg)
     have hvl:=(A.qL.1 jV).1;have hvr:∀ i ∈ s.l,0<=i/\i < (x.r.length:Int):=(K.QD (by rw [<-aS.out];exact jV)).2;have hsn:s.n + 1<=4:=by have:=hsI.1;omega
     obtain ⟨j0,j1⟩:=zJ (a:=j) (b:=mm) (by omega);obtain ⟨d1,d2⟩:=zK (a:=j) (b:=mm) (by omega);obtain ⟨bz,hbz⟩:=zB (K.kH x.nd x.l x.ss x.r q s.l);have hxj:=hx3.below Qp;have VZ:∀ i:ak wr,ay 103 #[lm x,.slice s.A s.n s.c,iL q] i.val (bg i.val bz):=λi=>by
      rw [hbz];exact akj x q s.A s.n s.c s.l i.val (hxj.below i.property) (hsI.below i.property) hvr hsn
     obtain ⟨p0,p1,p2,p3,c0,c1,c2,c3,c4,c5,c6⟩:=aC.out _ Qp;have q0:=ak.cell p0;have q1:=ak.cell p1;have q2:=ak.cell p2;have q3:=ak.cell p3;have r0:=ak.cell c0;have r1:=ak.cell c1;have r2:=ak.cell c2;have r3:=ak.cell c3;have r4:=ak.cell c4;have r5:=ak.cell c5;have r6:=ak.cell c6;have r7:=ak.cell hc;have V8:=zC hbz;have HG:=zC hg;have uK:=zC hEA;rw [hEA];clear hbz hg hEA p0 p1 p2 p3 c0 c1 c2 c3 c4 c5 c6 jV;go_upto_region 19 with fail;refine fV (by kernel_rfl) (by kernel_rfl) ?_;repeat (go_big_quiet_step ((go_at_call 103;exact ak.calls (VZ _))))
     refine wpQuiet_nil ?_;rintro w10 ⟨⟨w10,b10⟩,rfl⟩;clear VZ q0 q1 q2 q3 r0 r1 r2 r3 r4 r5 r6 r7 d1 d2;have ahf:=bel hbj b10;cases bz
     ·have FM:=zC (show ∀ s ∈ l.take (j + 1),K.kH x.nd x.l x.ss x.r q s.l=false from λy hy=>by
       rw [take_snoc HG.out] at hy;rcases dX.1 hy with hy | hy
       ·exact hno.out y hy
       ·rw [dB.1 hy];exact V8.out.symm)
      go_wp2_with fail;go_roundw
      case rel=>(go_light;exact ⟨j + 1,by go_num,hjm,FM.out,ahf⟩)
      case measure=>(go_light;simp [intOf];omega)
     ·have HIT:=zC (show v0=s.l by
       have h9:=HST.out;have hf:K.iC x.nd x.l x.ss x.r q [] k 0=some s.l:=by
        rw [V_.out,List.find?_map,YL (p:=K.kH x.nd x.l x.ss x.r q ∘ Sh.l) HG.out (by show K.kH _ _ _ _ _ s.l=true;exact V8.out.symm) hno.out];rfl
       rw [hf] at h9;injection h9 with h9;exact h9.symm)
      have Me:=bel Qp b10;have Zc:∀ w',af w10 w'->w'.cell? (gK.add j)=some (.slice s.A s.n s.c):=λw' h=>((bel b10 h).cell (cell_lt hc)).trans hc;have FI:=zC (show ∀ w',af w10 w'->(Ba w x q gK j s) w' from λw' h=>by
       obtain ⟨a0,a1,a2,a3,a4,a5,a6,a7,a8,a9,aa⟩:=aC.out w' (bel Me h);exact ⟨a0,a1,a2,a3,a4,a5,a6,a7,a8,a9,aa,Zc w' h⟩)
      have hbd:af w10 w10.drew:=ai.drew;have S0:=FI.out _ ai;have aQ:=FI.out _ hbd;have Uo:=hx3.below (bel Me hbd);have hs9:s.n<=1000:=by omega
      have hs8:s.n + 1<=1000000:=by omega
      have ag0:=(hsI.below b10).below hbd;clear Zc;go_upto_region 20 with fail
      go_region_held3 (Ba w x q gK j s)
       (with_reducible first | exact S2 | exact S1 | exact aQ | exact S0 | fail)
       (first
        | (go_at_call 101;refine (EX x.B x.m x.d x.r s.A s.n s.c s.l q _ Uo.cs.bf ag0 hvr Uo.req hs9).mono ?_;rintro e wa ⟨⟨Aa,ka,rfl,hLa,hka,Y4⟩,ba⟩;have bar:=bel hbd ba;have S1:=FI.out _ bar)
        | (go_at_call 23;refine (akZ (x.with_ Aa (s.n + 1) ka (K.dD x.r s.l q)) _ (Uo.case ba hLa rfl hs8) (λ_=>hsn)).mono ?_;rintro e wb ⟨⟨RB,rn,rc,bl,rfl,hBb,hbl,hUB,hrc,Q5⟩,bb⟩;have yR:=bel bar bb;have S2:=FI.out _ yR)
        | fail)
      have hbb:=bel Me yR;have hEb:w.heap.size + 1 + 1 + 1 < (gK.add j).block:=by rw [add_block];have:=HEN.out gK uK.out;omega
      have hms:∀ (W:World) (M:List (Addr × Value)),(∀ p ∈ M,p.1.block=w.heap.size + 1 + 1\/p.1.block=w.heap.size + 1 + 1 + 1)->(Ba w x q gK j s) W->(Ba w x q gK j s) (Sets W M):=λW M hM h=>by
       have mv:∀ (ad:Addr) (u:Value),(ad.block < w.heap.size + 1 + 1\/w.heap.size + 1 + 1 + 1 < ad.block)->W.cell? ad=some u->(Sets W M).cell? ad=some u:=λad u hb hc=>(lg (Sets.other M W _ (λp hp=>by rcases hM p hp with e | e <;> rw [e] <;> omega))).trans hc;obtain ⟨a0,a1,a2,a3,a4,a5,a6,a7,a8,a9,a10,a11⟩:=h;exact ⟨mv _ _ (.inl (by dsimp only;omega)) a0,mv _ _ (.inl (by dsimp only;omega)) a1,mv _ _ (.inl (by dsimp only;omega)) a2,mv _ _ (.inl (by dsimp only;omega)) a3,mv _ _ (.inl (by dsimp only;omega)) a4,mv _ _ (.inl (by dsimp only;omega)) a5,mv _ _ (.inl (by dsimp only;omega)) a6,mv _ _ (.inl (by dsimp only;omega)) a7,mv _ _ (.inl (by dsimp only;omega)) a8,mv _ _ (.inl (by dsimp only;omega)) a9,mv _ _ (.inl (by dsimp only;omega)) a10,mv _ _ (.inr hEb) a11⟩
      have hbd2:af wb wb.drew:=ai.drew;have S2d:=FI.out _ (bel yR hbd2);obtain ⟨hz2,hz3⟩:=sU.out _ hbb;have k2:=b_ hz2;have k3:=b_ hz3;obtain ⟨x0,x1,x2,x3⟩:=gX hz2;obtain ⟨z0',z1',z2',z3'⟩:=gX hz3;have hdr:∀ W:World,(Ba w x q gK j s) W->(Ba w x q gK j s) W.drew:=λW h=>h;have T2:=hdr _ (hms wb [((⟨w.heap.size + 1 + 1,0,none⟩:Addr),.int .i64 x.nd),((⟨w.heap.size + 1 + 1,1,none⟩:Addr),.slice x.A x.n x.c),((⟨w.heap.size + 1 + 1,2,none⟩:Addr),.slice x.SA x.sn x.sc),((⟨w.heap.size + 1 + 1,3,none⟩:Addr),.slice x.B x.m x.d)] (λp hp=>.inl (Dt hp)) S2);have T3:=hdr _ (hms wb [((⟨w.heap.size + 1 + 1,0,none⟩:Addr),.int .i64 x.nd),((⟨w.heap.size + 1 + 1,1,none⟩:Addr),.slice x.A x.n x.c),((⟨w.heap.size + 1 + 1,2,none⟩:Addr),.slice x.SA x.sn x.sc),((⟨w.heap.size + 1 + 1,3,none⟩:Addr),.slice x.B x.m x.d),(⟨w.heap.size + 1 + 1 + 1,0,none⟩,.bool false),(⟨w.heap.size + 1 + 1 + 1,1,none⟩,.slice none 0 0),(⟨w.heap.size + 1 + 1 + 1,2,none⟩,.slice s.A s.n s.c),(⟨w.heap.size + 1 + 1 + 1,3,none⟩,.slice RB rn rc)] (λp hp=>su hp) S2);simp only [Sets] at T2 T3;clear S0 aQ S1 hms hdr;go_upto_region 21 with fail
      go_region_held3 (Ba w x q gK j s)
       (with_reducible first | exact T3 | exact T2 | exact S2d | exact S2 | fail)
       (fail)
      clear T2 T3 S2 k2 k3 x0 x1 x2 x3 z0' z1' z2' z3';have Eb:=(hsI.below b10).below yR;have qf:w3.heap.size<=wa.heap.size:=(bel Me bar).size;go_wp2_with fail;obtain ⟨Ms,hMs⟩:∃ Ms:List (Addr × Value),Ms=[(⟨w.heap.size + 1 + 1,0,none⟩,.int .i64 x.nd),(⟨w.heap.size + 1 + 1,1,none⟩,.slice x.A x.n x.c),(⟨w.heap.size + 1 + 1,2,none⟩,.slice x.SA x.sn x.sc),(⟨w.heap.size + 1 + 1,3,none⟩,.slice x.B x.m x.d),(⟨w.heap.size + 1 + 1 + 1,0,none⟩,.bool false),(⟨w.heap.size + 1 + 1 + 1,1,none⟩,.slice none 0 0),(⟨w.heap.size + 1 + 1 + 1,2,none⟩,.slice s.A s.n s.c),(⟨w.heap.size + 1 + 1 + 1,3,none⟩,.slice RB rn rc)]:=⟨_,rfl⟩;have iW:∀ p ∈ Ms,p.1.block=w.heap.size + 1 + 1\/p.1.block=w.heap.size + 1 + 1 + 1:=λp hp=>by rw [hMs] at hp;exact su hp
      obtain ⟨ws,hws⟩:=zB (Sets wb Ms);obtain ⟨wz,hwz⟩:=zB ws.drew;have eP:=vW hz2 hz3 (by omega) (.int .i64 x.nd) (.slice x.A x.n x.c) (.slice x.SA x.sn x.sc) (.slice x.B x.m x.d) (.bool false) (.slice none 0 0) (.slice s.A s.n s.c) (.slice RB rn rc);rw [<-hMs,<-hws] at eP;have Ht:af ws wz:=by rw [hwz];exact ai.drew
      have hG2:=au Ht eP.1;have hG3:=au Ht eP.2;have hbw:af w wb:=bel hb3 hbb;have ahm:af w ws:=by rw [hws];exact hbw.trans (Sets.below Ms _ _ ai (λp hp=>by rcases iW p hp with e | e <;> rw [e] <;> omega))
      have hbz:=bel ahm Ht;have mG:∀ p ∈ Ms,p.1.block < w3.heap.size:=λp hp=>by rcases iW p hp with e | e <;> rw [e] <;> omega
      have Rk:Ints wz s.A s.n s.l:=Ints.below (by
       rw [hws];exact Eb.sets Ms (λh0 ad e p hp=>by have h1:=bM.out s (zD HG.out) h0 ad e;have h2:=mG p hp;omega)) Ht
      have Q3:iZ wz RB rn bl:=iZ.below (by
       rw [hws];exact hBb.sm λg hg _=>Sets.other Ms wb g (λp hp=>by have h1:=hUB g hg;have h2:=mG p hp;omega)) Ht
      have BM:dm wz x.B x.m x.r:=hx.cs.bf.below hbz;have iP:=hwz;rw [hws] at iP;simp only [hMs,Sets] at iP;rw [<-iP];refine jc (v:=.tuple #[.agg #[.int .i64 x.nd,.slice x.A x.n x.c,.slice x.SA x.sn x.sc,.slice x.B x.m x.d],.agg #[.bool false,.slice none 0 0,.slice s.A s.n s.c,.slice RB rn rc],.int .i64 0]) (Jc _ wz (w.heap.size + 1 + 1) (w.heap.size + 1 + 1 + 1) (.int .i64 x.nd) (.slice x.A x.n x.c) (.slice x.SA x.sn x.sc) (.slice x.B x.m x.d) (.bool false) (.slice none 0 0) (.slice s.A s.n s.c) (.slice RB rn rc) 0 rfl rfl rfl hG2 hG3) rfl ?_;refine ⟨⟨x,⟨false,none,0,0,[],s.A,s.n,s.c,s.l,RB,rn,rc,bl⟩,by rw [HX.out],⟨(E8 wz).t,Rk,Q3⟩,⟨Fa.ft,(show s.n<=1000 by omega),Q5⟩,?_,?_⟩,hbz⟩
      ·rw [HX.out];unfold AV.an;dsimp only;rw [hbl,HIT.out];rfl
      ·rw [HX.out];exact ⟨x.B,x.m,x.d,x.r,rfl,BM,rfl⟩
    ·obtain ⟨d1,d2⟩:=zL (a:=j) (b:=mm) (by omega);have HN:=zC (show K.kU x.nd x.l x.ss x.r q (x.m + 1 - (k + 1)) (k + 1)=some v0 by
      have h9:=HST.out;have hnone:K.iC x.nd x.l x.ss x.r q [] k 0=none:=by
       rw [V_.out,List.find?_eq_none];intro u hu;obtain ⟨s,hs,rfl⟩:=fE.1 hu;have h8:=hno.out s (by rw [fD (by have:=hSl.1.1;omega)];exact hs);rw [h8];decide
      rw [hnone] at h9;exact h9)
     have hbk:=bel vG hbj;go_wp2_with fail;go_roundw
     case rel=>(go_light;exact ⟨k + 1,by go_num,by omega,HN.out,hbk⟩)
     case measure=>(go_light;simp [intOf];omega)
theorem ail (A:aj) (n c:Nat) (l:ag) (m:Nat) (w:World) (hl:Ints w A n l) (hn:n<=1000000000) (hm:m<=1000000000) :
  ay 104 #[.slice A n c,.int .i64 m] w (bg w (K.kP m (-1) l)):=by
 obtain ⟨R,hR⟩:=zB (K.kP m (-1) l);rw [<-hR];have HR:=zC hR;clear hR;go_enter Tryz.func104,Tryz.ntmps104;go_wp2_with fail;go_loopw [5] (λv wr=>∃ (k:Nat) (p:Int),v=.int .i64 k/\k<=n/\Hid (R=K.kP m p (l.drop k))/\Hid ((k=0/\p=-1)\/∃ j,k=j + 1/\l[j]? = some p/\0<=p)/\af w wr) (λv _=>n - (intOf v).toNat)
 case atStart=>exact ⟨0,-1,rfl,aW _,(by show _=_;rw [List.drop_zero];exact HR.out),.inl ⟨rfl,rfl⟩,ai⟩
 case round =>
  obtain ⟨k,p,rfl,hk,hr,hp,hb⟩:=hrel;by_cases hlt:k < n
  ·obtain ⟨ad,y,hA,hg,c0⟩:=(hl.below hb).at_ hlt;have HS:=zC (show R=(!decide (y<=p) && (!decide ((m:Int)<=y) && K.kP m y (l.drop (k + 1)))) by rw [hr.out,D7 hg,K.kP]);have HG:=zC hg;obtain ⟨k0,k1⟩:=zJ (a:=k) (b:=n) (by omega);by_cases h1:y < 0
   ·have HX:=zC (show R=false by
     have:decide (y<=p)=true:=by
      rcases hp.out with ⟨-,e⟩ | ⟨j,-,-,e⟩ <;> simp <;> omega
     rw [HS.out,this];rfl)
    have d1:decide (y < 0)=true:=by simp;omega
    clear hg h1;rw [hA];clear hA;go_wp2_with fail;go_quiet (fail);go_wp2_with fail;go_ret;exact ⟨by rw [HX.out];rfl,below_drewN hb _⟩
   have d1:decide (y < 0)=false:=by simp;omega
   by_cases h2:(m:Int)<=y
   ·have HX:=zC (show R=false by rw [HS.out,zH h2];simp);have d2:decide ((m:Int)<=y)=true:=zH h2;clear hg h1 h2;rw [hA];clear hA;go_wp2_with fail;go_quiet (fail);go_wp2_with fail;go_ret;exact ⟨by rw [HX.out];rfl,below_drewN hb _⟩
   have d2:decide ((m:Int)<=y)=false:=zI h2;have h10:0<=y:=by omega
   have bH:=zC (show (k + 1=0/\y=-1)\/∃ j,k + 1=j + 1/\l[j]? = some y/\0<=y from .inr ⟨k,rfl,hg,h10⟩);rcases hp.out with ⟨h0,hp1⟩ | ⟨j,hkj,hj,hp0⟩
   ·have d3:decide ((0:Int) < (k:Int))=false:=by simp;omega
    have d3':decide (0 < k)=false:=by simp;omega
    have HX:=zC (show R=K.kP m y (l.drop (k + 1)) by rw [HS.out,d2,show decide (y<=p)=false by simp;omega];simp);clear hg h1 h2 h10 HS h0 hp1;rw [hA];clear hA;go_wp2_with fail;go_quiet (fail);go_wp2_with fail;go_roundw
    case rel=>exact ⟨k + 1,y,by go_num,by omega,HX.out,bH.out,below_drewN hb _⟩
    case measure=>simp [intOf];omega
   ·obtain ⟨lM,p2,hA2,hj2,c2⟩:=(hl.below hb).at_ (show j < n by omega);rw [hA] at hA2;injection hA2 with hA2;subst hA2;obtain rfl:p2=p:=by rw [hj] at hj2;injection hj2 with h9;exact h9.symm
    have d3:decide ((0:Int) < (k:Int))=true:=by simp;omega
    have d3':decide (0 < k)=true:=by simp;omega
    have f2:(k:Int) - 1=(j:Int):=by omega
    have f3:IntKind.i64.wrap ((k:Int) - 1)=(j:Int):=by rw [f2];exact dh _ (by omega)
    have f4:decide ((j:Int) < 0)=false:=by simp
    have f6:(j:Int) < (n:Int):=by omega
    have f7:(0:Int)<=(j:Int):=by omega
    by_cases h3:y<=p2
    ·have HX:=zC (show R=false by rw [HS.out,zH h3];rfl);have d4:decide (y<=p2)=true:=zH h3;clear hg h1 h2 h3 h10 HS hj hj2 hkj;rw [hA];clear hA;go_wp2_with fail;go_quiet (fail);go_wp2_with fail;go_ret;exact ⟨by rw [HX.out];rfl,below_drewN hb _⟩
    ·have HX:=zC (show R=K.kP m y (l.drop (k + 1)) by rw [HS.out,d2,zI h3];simp);have d4:decide (y<=p2)=false:=zI h3;clear hg h1 h2 h3 h10 HS hj hj2 hkj;rw [hA];clear hA;go_wp2_with fail;go_quiet (fail);go_wp2_with fail;go_roundw
     case rel=>exact ⟨k + 1,y,by go_num,by omega,HX.out,bH.out,below_drewN hb _⟩
     case measure=>simp [intOf];omega
  ·have HX:=zC (show R=true by rw [hr.out,dF (by rw [<-hl.1];omega)];rfl);obtain ⟨hd,hd2⟩:=zL (a:=k) (b:=n) (by omega);go_wp2_with fail;go_ret;exact ⟨by rw [HX.out];rfl,hb⟩
theorem ak3 (x:C) (y:TV) (w:World) (hx:At w x) (hy:AZ w y) (hn:y.n<=100000) (rO:y.n<=y.c) :
  ay 87 #[.agg #[.int .i64 x.nd,.slice x.A x.n x.c],fG x.s,.slice x.B x.m x.d,.agg #[.int .i64 y.sh,.slice y.A y.n y.c,.slice y.A' y.n' y.c',.int .i64 y.t.end_]] w (bg w (K.check x.nd x.l x.s x.r y.t)):=by
 obtain ⟨w1,hw1⟩:=zB (w.alloc (.cells #[.int .i64 x.nd,.slice x.A x.n x.c] 24));obtain ⟨w2,hw2⟩:=zB (w1.alloc (.cells #[.int .i64 x.s.day,.int .i64 x.s.ax,.int .i64 x.s.start,.int .i64 x.s.end_,.int .i64 x.s.aU,.slice x.s.A x.s.n x.s.c] 63));obtain ⟨w3,hw3⟩:=zB (w2.alloc (.cells #[.int .i64 y.sh,.slice y.A y.n y.c,.slice y.A' y.n' y.c',.int .i64 y.t.end_] 80));have z1:w1.heap.size=w.heap.size + 1:=by rw [hw1];exact aF _ _
 have z2:w2.heap.size=w.heap.size + 1 + 1:=by rw [hw2,aF,z1]
 have b01:=aH hw1;have b12:=aH hw2;have bQ:=aH hw3;have hP:Net w3 w.heap.size x.nd x.A x.n x.c:=by
  have h1:Net w1 w.heap.size x.nd x.A x.n x.c:=by rw [hw1];exact Net.new _ _ _ _ _
  exact (h1.below b12).below bQ
 have hS:bI w3 (w.heap.size + 1) x.s:=by
  have h1:bI w2 (w.heap.size + 1) x.s:=by rw [<-z1,hw2];exact bI.new _ _
  exact h1.below bQ
 have hT:jr w3 (w.heap.size + 1 + 1) y.sh (.slice y.A y.n y.c) (.slice y.A' y.n' y.c') y.t.end_:=by rw [<-z2,hw3];exact aA _ _
 have b3:=bel (bel b01 b12) bQ;have p0:=hP.c0;have p1:=hP.c1;obtain ⟨s0,s1,s2,s3,s4,s5⟩:=hS.cells;obtain ⟨t0,t1,t2,t3⟩:=hT.cells;rw [hw3,hw2,hw1] at p0 p1 s0 s1 s2 s3 s4 s5 t0 t1 t2 t3;go_enter Tryz.func87,Tryz.ntmps87;go_wp2_with fail;rw [<-hw1,<-hw2,<-hw3];clear hw1 hw2 hw3 z1 z2 b01 b12 bQ p0 p1 s0 s1 s2 s3 s4 s5 t0 t1 t2 t3;refine (adu x y.A y.n y.c y.t.stops _ (hx.below b3) (hy.below b3).stops rO hn).mono ?_;rintro e w4 ⟨⟨A1,n1,c1,A2,n2,c2,rfl,hI1,hI2,-⟩,iw⟩;have hlen:=K.adA x.nd x.l x.s x.r y.t.stops;obtain ⟨R,hR⟩:=zB (K.run x.nd x.l x.s x.r y.t.stops);rw [<-hR] at hI1 hI2 hlen ⊢;have HR:=zC (show K.check x.nd x.l x.s x.r y.t=((R.e == 0) && (decide (R.bC.times=y.t.times) && (R.bC.end_ == y.t.end_))) by rw [hR];rfl);have hn1:n1<=1000000000:=by rw [hI1.1];have:=hlen.1;have:=hy.stops.1;omega
 have hn2:n2<=1000000000:=by rw [hI2.1];have:=hlen.2;have:=hy.stops.1;omega
 have HRR:=zC hR;clear hR hlen;have hT:=hT.below iw;have hb:=bel b3 iw;have ba:af w4 (w4.alloc (.cells #[.int .i64 0,.slice A1 n1 c1,.slice A2 n2 c2,.int .i64 R.bC.end_] 80)):=ai.alloc (zG _) _;have hT2:jr (w4.alloc (.cells #[.int .i64 0,.slice A1 n1 c1,.slice A2 n2 c2,.int .i64 R.bC.end_] 80)) w4.heap.size 0 (.slice A1 n1 c1) (.slice A2 n2 c2) R.bC.end_:=aA _ _;have hT1:=hT.below ba;obtain ⟨w5,hw5⟩:=zB (w4.alloc (.cells #[.int .i64 0,.slice A1 n1 c1,.slice A2 n2 c2,.int .i64 R.bC.end_] 80));obtain ⟨q0,q1,q2,q3⟩:=hT1.cells;obtain ⟨r0,r1,r2,r3⟩:=hT2.cells;cases k0:(R.e == 0)
 ·have HX:=zC (show K.check x.nd x.l x.s x.r y.t=false by rw [HR.out,k0];rfl);clear hw5;go_wp2_with fail;go_ret;exact ⟨aK HX.out.symm,bel hb ba⟩
 have HX:=zC (show K.check x.nd x.l x.s x.r y.t=K.same R.bC y.t by
  have hst:R.bC.stops=y.t.stops:=by
   have h0:(K.run x.nd x.l x.s x.r y.t.stops).e=0:=by rw [<-HRR.out];simpa using k0
   rw [HRR.out,(K.xY h0).2.2.2]
  rw [HR.out,k0];simp [K.same,hst])
 rw [<-hw5] at ba hT1 hT2;have hb5:=bel hb ba;have tK:=hI1.below ba;have Q9:=hI2.below ba;go_wp2_with fail;rw [<-hw5];clear hw5 q0 q1 q2 q3 r0 r1 r2 r3 k0 HR;refine (alf ⟨0,A1,n1,c1,A2,n2,c2,R.bC⟩ y _ ⟨tK,Q9,hn1,hn2⟩ (hy.below hb5)).mono ?_;rintro e w6 ⟨rfl,dI⟩;have hb6:=bel hb5 dI;go_wp2_with fail;go_ret;exact ⟨aK HX.out.symm,hb6⟩
end Go.Proofs.YtippdjmpkafifaaGreat
