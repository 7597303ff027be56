import Derived.Test.YtippdjmpkafifaaGreatCT18
import Derived.Test.YtippdjmpkafifaaGreatCT19
import Derived.Test.YtippdjmpkafifaaGreatCT15
import Derived.Test.YtippdjmpkafifaaGreatCT13
import Derived.Test.YtippdjmpkafifaaGreatCT7
import Derived.Test.YtippdjmpkafifaaGreatCT16
import Derived.Test.YtippdjmpkafifaaGreatCT17
set_option maxRecDepth 100000
set_option maxHeartbeats 64000000
namespace Go.Proofs.YtippdjmpkafifaaGreat
open Go.RowKit
theorem Bools.at_ {w:World} {A:Option Addr} {n k:Nat} {l:List Bool} (h:Bools w A n l) (hk:k < n):∃ ad b,A=some ad/\l[k]? = some b/\w.cell? (ad.add k)=some (.bool b):=by
 obtain ⟨ad,b,hA,hl,hc⟩:=aQ.get (f:=yl) (s:=1) (λ_=>rfl) h hk;have:=hc 0 _ (by decide) rfl;rw [Nat.mul_one,Nat.add_zero] at this;exact ⟨ad,b,hA,hl,this⟩
theorem ac5 {w:World} {A:Option Addr} {n k:Nat} {L:List BB} (h:aQ BB.cells 2 w A n L) (hk:k < n):∃ ad y,A=some ad/\L[k]? = some y/\w.cell? (ad.add (k * 2))=some (.slice y.A y.n y.c)/\w.cell? ⟨(ad.add (k * 2)).block,(ad.add (k * 2)).off + 1,none⟩=some (.slice y.O y.m y.k):=by
 obtain ⟨ad,y,hA,hl,hc⟩:=aQ.get (f:=BB.cells) (s:=2) (λ_=>rfl) h hk;refine ⟨ad,y,hA,hl,hc 0 _ (by decide) rfl,?_⟩;rw [<-lZ _ _ _ (by decide)];exact hc 1 _ (by decide) rfl
def NTr (w:World) (ts:List TV):Prop:=∀ y ∈ ts,∀ g,Ft y.A y.n g\/Ft y.A' y.n' g->w.heap.size<=g
def Uk (w w':World) (p:List (Nat × K.Tr) × Int) (e:Ending):Prop :=
 (∃ A n c l,e=.returned (.tuple #[.slice A n c,.int .i64 p.2])/\dY w' A n l/\l.map TV.pr=p.1.map (λt=>((t.1:Int),t.2))/\(∀ g,Ft A n g->w.heap.size<=g)/\NTr w l)/\Below w.heap.size w w'
theorem Rh {w w':World} {p:List (Nat × K.Tr) × Int} {er:Int} (h:p=([],er)) (hb:Below w.heap.size w w'):Uk w w' p (.returned (.tuple #[.slice none 0 0,.int .i64 er])):=by
 subst h;exact ⟨⟨none,0,0,[],rfl,⟨⟨rfl,rfl,λh=>absurd h (by omega)⟩,λy h=>by cases h⟩,rfl,λg e=>absurd e.1 (Nat.lt_irrefl 0),λy h=>(by cases h)⟩,hb⟩
theorem ai9 {nd:Int} {l:List Ro} {s:S} {r:List Q} {k N:Nat} {ts:List TV} {ok:List Bool} (h:mO nd l s r k N ts ok) {n:Nat} (hn:n < N):ok[n]? = some ((K.lH nd l s r n).2 == 0):=by
 rw [h.2,List.getElem?_map,List.getElem?_range hn];rfl
theorem ai_ {nd:Int} {l:List Ro} {s:S} {r:List Q} {k N:Nat} {ts:List TV} {ok:List Bool} (h:mO nd l s r k N ts ok) {n:Nat} (hn:n < N) (h0:n ≠ 0) {y:TV} (hy:ts[n]? = some y):y.pr=((k:Int),(K.lH nd l s r n).1):=by
 have e:(ts.map TV.pr)[n]? = some y.pr:=by rw [List.getElem?_map,hy];rfl
 rw [h.1,List.getElem?_map,List.getElem?_range hn] at e;injection e with e;dsimp only at e;rw [if_neg h0] at e;exact e.symm
theorem Rn (x:Cs) (w:World) (hx:bF w x) (h4:K.aH x.nd x.l x.ss x.r=0->x.m<=4) :
  Calls Tryz.prog 21 #[.agg #[.int .i64 x.nd,.slice x.A x.n x.c],.slice x.SA x.sn x.sc,.slice x.B x.m x.d] w λe w'=>Uk w w' (K.plan x.nd x.l x.ss x.r) e:=by
 obtain ⟨w1,hw1⟩:=zB (w.alloc (.cells #[.int .i64 x.nd,.slice x.A x.n x.c] 24));have hN1:Net w1 w.heap.size x.nd x.A x.n x.c:=by rw [hw1];exact Net.new w x.nd x.A x.n x.c
 have hb1:=zA hw1;obtain ⟨G0,hG0⟩:=zB w.heap.size;rw [<-hG0] at hN1;have bf:=zC hx.shifts.1.1;have aO:=zC hx.aN.1;have CS:=Ru x w1 (hx.below hb1);obtain ⟨ce,hce⟩:=zB (K.aH x.nd x.l x.ss x.r);rw [<-hce] at CS h4;have p0:=hN1.c0;have p1:=hN1.c1;go_enter Tryz.func21,Tryz.ntmps21;go_upto_region 1 with fail;rw [<-hw1,<-hG0];clear hw1 hG0;go_wp2_with fail;refine CS.mono ?_;rintro e w2 ⟨rfl,b2⟩;have hb2:=bel hb1 b2;have aY:=hN1.below b2;clear CS p0 p1 hN1;by_cases hz:ce=0;rotate_left
 ·have HX:=zC (show K.plan x.nd x.l x.ss x.r=([],ce) by rw [hce] at hz ⊢;exact K.JY hz);have hd:(ce != 0)=true:=by simp [bne,hz]
  clear hce;go_wp2_with fail;go_ret2
  exact Rh HX.out hb2
 subst hz;have aJ:=zC hce.symm;have hm4:x.m<=4:=h4 rfl;have qC:x.sn<=4:=by rw [hx.shifts.1.1];exact (K.gQ aJ.out).2.1
 clear hce h4;by_cases hret:0 < x.m/\x.sn=0
 ·obtain ⟨hm0,hs0⟩:=hret;have HX:=zC (show K.plan x.nd x.l x.ss x.r=([],4) from K.aay aJ.out λe he=>by
   rw [<-bf.out,<-aO.out,hs0] at he;obtain ⟨k,hk⟩:∃ k,x.m=k + 1:=⟨x.m - 1,by omega⟩;rw [hk,K.aeb] at he;cases he)
  have d1:decide ((0:Int) < (x.m:Int))=true:=zH (by omega);have d2:decide (0 < x.m)=true:=zH hm0;have d3:((x.sn:Int) == 0)=true:=by simp [hs0]
  have d4:decide ((x.sn:Int)=0)=true:=by simp [hs0]
  clear hs0 hm0;go_wp2_with fail;go_ret2
  exact Rh HX.out hb2
 have hcase:0 < x.sn\/x.m=0:=by omega
 have nY:=zC hcase;go_upto_region 4 with fail;go_cut [30] from 23 to 30 (λv30 wc=>v30=.bool false/\wc=w2)
 case first =>
  by_cases hm0:0 < x.m
  ·have d1:decide ((0:Int) < (x.m:Int))=true:=zH (by omega);have d2:decide (0 < x.m)=true:=zH hm0;have d3:((x.sn:Int) == 0)=false:=by simp;omega
   have d4:decide ((x.sn:Int)=0)=false:=by simp;omega
   clear hret hcase;go_wp2_with fail;go_meet;exact ⟨rfl,rfl⟩
  ·have d1:decide ((0:Int) < (x.m:Int))=false:=zI (by omega);have d2:decide (0 < x.m)=false:=zI hm0;clear hret hcase;go_wp2_with fail;go_meet;exact ⟨rfl,rfl⟩
 case rest =>
 obtain ⟨rfl,hwc⟩:=hcut;rw [hwc];clear hwc hret hcase;have CB:=ac4 x w2 (hx.below hb2) hm4 qC;have p0:=aY.c0;have p1:=aY.c1;go_wp2_with fail;refine CB.mono ?_;rintro e w3 ⟨⟨BA,bn,bc,L,rfl,WH,rfl,Wp,hNew,V9⟩,b3⟩;have CX:=zC (show x.sn=L.length from WH.1);have Tj:=zC Wp;have LM:=zC hNew;have qN:=zC V9;have hb3:=bel hb2 b3;have akR:=b3.size;have hwz:=hb2.size;clear CB p0 p1 aY Wp hNew V9;obtain ⟨h,hh⟩:=zB w3.heap.size;obtain ⟨w5,hw5⟩:=zB (w3.alloc (.cells (intCells (List.replicate x.m 0)).toArray 3));have UK:=zA hw5;have fQ:Ints w5 (some ⟨h,0,none⟩) x.m (K.nat (List.replicate x.m 0)):=by
  have h9:di w5 h (List.replicate x.m 0):=by rw [hw5,hh];exact heap_alloc_new _ _
  have h8:=h9.ints;rw [List.length_replicate] at h8;unfold K.nat;rw [List.map_replicate];exact h8
 have hmk:=BL x.m (by omega);have hb5:=bel hb3 UK;go_wp2_with fail;rw [<-hw5,<-hh];clear hw5 hh hmk;have Eg:=K.aea (m:=x.sn) (k:=x.m) nY.out;go_loopw [10,11] (λv10 v11 wr=>Below w5.heap.size w5 wr/\((v11=.bool false/\Hid (∀ e ∈ A.exts x.sn x.m,A.possible (K.bM x.nd x.l x.ss x.r) x.ss.length e=false))\/∃ (j:Nat) (d:List Nat) (LA:Option Addr) (ln lc:Nat),v11=.bool true/\v10=.slice LA ln lc/\Ints wr LA ln (K.nat d)/\Hid ((A.exts x.sn x.m)[j]? = some d)/\Hid (∀ e ∈ (A.exts x.sn x.m).take j,A.possible (K.bM x.nd x.l x.ss x.r) x.ss.length e=false))) (λv10 v11 wr=>o6 x.sn x.m v10 v11 wr)
 case atStart=>exact ⟨Below.refl _ _,.inr ⟨0,_,_,_,_,rfl,rfl,fQ,Eg,λe he=>(by cases he)⟩⟩
 case round =>
  clear fQ Eg;obtain ⟨hbr,(⟨rfl,hno⟩ | ⟨j,d,LA,ln,lc,rfl,rfl,hI,hj,hbef⟩)⟩:=hrel
  ·have HX:=zC (show K.plan x.nd x.l x.ss x.r=([],4) from K.aay aJ.out λe he=>by rw [<-bf.out,<-aO.out] at he;exact hno.out e he);go_wp2_with fail;go_ret2
   exact Rh HX.out (bel hb5 hbr)
  ·obtain ⟨wo,hwo⟩:=zB wr;rw [<-hwo] at hbr hI;rw [<-hwo];clear hwo;obtain ⟨hdl,hdm⟩:=A.o5.1 (zD hj.out);have hln:ln=x.m:=by rw [hI.1];unfold K.nat;rw [List.length_map];exact hdl
   have aK:=zC hln;have vI:=zC hdl;have sV:=zC hdm;have HDR:=zC (show d.length=x.r.length by rw [hdl,aO.out]);have En:ln<=1000:=by omega
   have Dh:=zC (J6 (c:=lc) (m:=x.sn) (k:=x.m) hI);have hb6:=bel hb5 hbr;have UM:=bel UK hbr;have akT:=hb6.size;clear hdl hdm hln;go_wp2_with fail;go_loopw [12,13,14] (λv12 v13 v14 wi=>∃ (s:Nat) (ts:List TV) (zz:Bool),v14=.int .i64 s/\s<=x.sn/\v13=.bool zz/\wi.ownsRow wo.heap.size 80 4 v12 ts.length (ts.flatMap TV.cells)/\Hid (zz=K.uY x.nd x.l x.ss x.r d s)/\Hid (ts.map TV.pr=(K.qH x.nd x.l x.ss x.r d s).map λt=>((t.1:Int),t.2))/\Hid (∀ y ∈ ts,∃ b ∈ L,y ∈ b.ts)/\ts.length<=s/\Below wo.heap.size wo wi) (λ_ _ v14 _=>x.sn - (intOf v14).toNat)
   case atStart=>exact ⟨0,[],true,rfl,Nat.zero_le _,rfl,World.ownsRow_nil _ _ _ _,rfl,rfl,λy hy=>(by cases hy),Nat.zero_le _,Below.refl _ _⟩
   case round =>
    obtain ⟨s,ts,zz,rfl,hs,rfl,hown,hzz,htp,hmem,htl,hbi⟩:=hrel;by_cases hlt:s < x.sn
    ·have i0:(0:Int)<=(s:Int):=by omega
     have i1:(s:Int) < (x.sn:Int):=by omega
     obtain ⟨sS,hsS⟩:∃ sS,x.ss[s]? = some sS:=⟨_,zF (by rw [<-bf.out];exact hlt)⟩;have LY:=zC (K.aiR (nd:=x.nd) (l:=x.l) (r:=x.r) (d:=d) hsS);have xU:=zC (λh=>K.aiW (nd:=x.nd) (l:=x.l) (ss:=x.ss) (r:=x.r) (d:=d) (s:=s) h);have iT:=zC (λh=>K.aiX (nd:=x.nd) (l:=x.l) (r:=x.r) (d:=d) hsS h);have hsh:=A.o_ d s 0;have hin:=K.FX HDR.out s;have hpn:=K.Q4 (by rw [<-aO.out];exact hm4) hsh hin;obtain ⟨v,hv⟩:=zB (A.share d s 0);rw [<-hv] at hsh hin hpn LY xU iT;have KY:=abL LA ln lc d s wr (hI.below hbi) En;rw [<-hv] at KY;have XU:∀ i ∈ v,0<=i/\i < 6:=λi hi=>by have:=hin i hi;have:=aO.out;omega
     obtain ⟨nn,hnn⟩:=zB (K.num v);have hnp:nn < 2 ^ x.r.length:=by rw [hnn];exact hpn.2
     rw [<-hnn] at LY xU iT;have z_:=zC hnp;have HH6:=zC XU;have mV:=zC hsh;have tq:=zC hnn.symm;have dW:=zC hsS;have h16:nn < 16:=Nat.lt_of_lt_of_le hnp (by rw [<-aO.out];exact K.aaz hm4);clear hsS hpn hv hnn hnp XU hin hsh;go_upto_region 16 with fail;go_wp2_with fail;refine KY.mono ?_;rintro e w6 ⟨⟨V,vn,vc,rfl,hV,-⟩,b6⟩;have CN:=ahg V vn vc v w6 hV mV.out HH6.out;rw [tq.out] at CN;clear KY;go_wp2_with fail;refine CN.mono ?_;rintro e w6' ⟨rfl,rfl⟩;have Pe:=bel hbi b6;have UL:=bel UM Pe;have hown6:=own_below hown b6;obtain ⟨aZ,y,kW,hy,c0,c1⟩:=ac5 (aQ.below WH UL) hlt;have Qm:=zD hy;have EJ:=(Tj.out y Qm).below UL;have IQ:=qN.out s y sS hy dW.out;obtain ⟨hl1,hl2⟩:=IQ.len;have hnT:nn < y.n:=by rw [EJ.1.1.1,hl1];exact z_.out
     have X_:nn < y.m:=by rw [EJ.2.1,hl2];exact z_.out
     obtain ⟨adO,bO,yI,qp,cO⟩:=EJ.2.at_ X_;have XA:bO=((K.lH x.nd x.l sS x.r nn).2 == 0):=by
      have h9:=ai9 IQ z_.out;rw [qp] at h9;injection h9
     have n0:(0:Int)<=(nn:Int):=by omega
     have n1:(nn:Int) < (y.m:Int):=by omega
     have n2:(nn:Int) < (y.n:Int):=by omega
     have HZ2:=zC (show (zz && bO)=K.uY x.nd x.l x.ss x.r d (s + 1) by rw [LY.out,<-hzz.out,XA]);obtain ⟨qZ,tv,hTA,Qe,⟨hI1,hI2⟩,t0,t1,t2,t3⟩:=EJ.1.at_ hnT;have HTV:=zC (λh0=>ai_ IQ z_.out h0 Qe);have xR:=zC (zD Qe);have GH:=zC Qm;have Gj:=zC kW;have HOA:=zC yI;have TT:=zC hTA;rw [yI] at c1;rw [hTA] at c0;obtain ⟨zn,hzn⟩:=zB ((zz && bO));have GI:=zC hzn;clear CN qp XA IQ hl1 hl2 Qe Qm hy hzz EJ yI hTA;rw [kW];clear kW;go_upto_region 17 with fail;go_cut [13] from 56 to 66 (λv13 wc=>v13=.bool zn/\wc=w6)
     case first =>
      cases zz
      ·go_wp2_with fail;go_meet;exact ⟨by rw [GI.out];rfl,rfl⟩
      ·go_wp2_with fail;go_meet;exact ⟨by rw [GI.out];rfl,rfl⟩
     case rest =>
     obtain ⟨rfl,hwc⟩:=hcut;rw [hwc];clear hwc c1 cO X_ hzn;by_cases h0:nn=0
     ·have e1:decide ((0:Int) < (nn:Int))=false:=zI (by omega);have e2:decide (0 < nn)=false:=zI (by omega);have HT2:=zC (show ts.map TV.pr=(K.qH x.nd x.l x.ss x.r d (s + 1)).map λt=>((t.1:Int),t.2) by rw [xU.out h0];exact htp.out);clear h0 t0 t1 t2 t3 c0;rw [<-Gj.out];go_wp2_with fail;go_roundw
      case rel=>(go_light;exact ⟨s + 1,ts,zn,by go_num,hlt,rfl,hown6,by rw [GI.out];exact HZ2.out,HT2.out,hmem.out,Nat.le_succ_of_le htl,Pe⟩)
      case measure=>(go_light;simp [intOf];omega)
     ·have e1:decide ((0:Int) < (nn:Int))=true:=zH (by omega);have e2:decide (0 < nn)=true:=zH (by omega);have YE:=HTV.out h0;have HT2:=zC (show (ts ++ [tv]).map TV.pr=(K.qH x.nd x.l x.ss x.r d (s + 1)).map λt=>((t.1:Int),t.2) by rw [iT.out h0,List.map_append,List.map_append,htp.out,List.map_singleton,List.map_singleton,YE]);have Lt:=zC (show ∀ z ∈ ts ++ [tv],∃ b ∈ L,z ∈ b.ts from λz hz=>by
       rcases List.mem_append.1 hz with hz | hz
       ·exact hmem.out z hz
       ·rw [List.mem_singleton.1 hz];exact ⟨y,GH.out,xR.out⟩)
      obtain ⟨w7,hw7⟩:=zB (w6.alloc (.cells #[.int .i64 tv.sh,.slice tv.A tv.n tv.c,.slice tv.A' tv.n' tv.c',.int .i64 tv.t.end_] 80));obtain ⟨g7,qx⟩:=zB w6.heap.size;have b7:Below w6.heap.size w6 w7:=by rw [hw7];exact ry _ _
      have hL7:w7.heap[g7]? = some (.cells #[.int .i64 tv.sh,.slice tv.A tv.n tv.c,.slice tv.A' tv.n' tv.c',.int .i64 tv.t.end_] 80 (0,0)):=by rw [hw7,qx];exact heap_alloc_new _ _
      have fF:=own_below hown6 b7;have XD:=bel Pe b7;have zi:wo.heap.size<=w7.heap.size:=XD.size;have Qc:ts.length<=1000000:=by omega
      have afJ:(ts ++ [tv]).length<=s + 1:=by rw [List.length_append];exact Nat.succ_le_succ htl
      clear h0 YE;go_upto_region 15 with (first
       | (at_builtin;rw [<-hw7,<-qx];refine Na rfl _ _ rfl wo.heap.size _ ts.length ts rfl fF g7 tv rfl hL7 Qc zi ?_;intro v8 w8 gu yV I9)
       | fail)
      have aeY:Below wo.heap.size wo w8:=a_ XD yV (λg e=>(bG fF g e).1);have afu:w8.ownsRow wo.heap.size 80 4 v8 (ts ++ [tv]).length ((ts ++ [tv]).flatMap TV.cells):=by rw [List.length_append];exact gu
      rw [<-Gj.out];clear t0 t1 t2 t3 c0 hw7 qx hL7 fF gu yV I9;go_wp2_with fail;go_roundw
      case rel=>(go_light;exact ⟨s + 1,ts ++ [tv],zn,by go_num,hlt,rfl,afu,by rw [GI.out];exact HZ2.out,HT2.out,Lt.out,afJ,aeY⟩)
      case measure=>(go_light;simp [intOf];omega)
    ·have hd:decide ((s:Int) < (x.sn:Int))=false:=zI (by omega);have hd2:decide (s < x.sn)=false:=zI hlt;have hsl:s=x.ss.length:=by have:=bf.out;omega
     have oh:=zC hsl;have hbw:=bel hb6 hbi;clear hsl;cases zz;rotate_left
     ·have HX:=zC (show K.plan x.nd x.l x.ss x.r=(K.qH x.nd x.l x.ss x.r d x.ss.length,0) from K.ah0 (j:=j) aJ.out (by rw [<-aO.out];exact hm4) (by rw [<-bf.out,<-aO.out];exact hj.out) (by rw [<-bf.out,<-aO.out];have:=hbef.out;rwa [<-bf.out] at this) (by rw [<-oh.out];exact hzz.out.symm));obtain ⟨OA,oc,rfl,jO,hfr⟩:=dh hown;have Tf:=zC (show ∀ y ∈ ts,(Ints wr y.A y.n y.t.stops/\Ints wr y.A' y.n' y.t.times)/\∀ g,Ft y.A y.n g\/Ft y.A' y.n' g->w.heap.size<=g from λy hy=>by
       obtain ⟨b,hb,hyb⟩:=hmem.out y hy;refine ⟨((Tj.out b hb).below (bel UM hbi)).1.2 y hyb,λg e=>?_⟩;have h9:=LM.out b hb g (.inl (.inr ⟨y,hyb,e⟩));omega)
      go_wp2_with fail;go_ret2
      refine ⟨⟨OA,_,oc,ts,by rw [HX.out];rfl,⟨⟨rfl,jO⟩,λy hy=>(Tf.out y hy).1⟩,?_,λg e=>?_,λy hy=>(Tf.out y hy).2⟩,hbw⟩
      ·rw [HX.out,htp.out,oh.out]
      ·obtain ⟨-,ad,rfl,e2⟩:=e;have:=(hfr ad.block rfl).1;omega
     ·have h3:0 < x.sn:=by
       rcases nY.out with h | h
       ·exact h
       ·by_cases h9:0 < x.sn
        ·exact h9
        ·have hs0:s=0:=by omega
         have:=hzz.out;rw [hs0] at this;cases this
      have CN:=ZI LA ln lc d x.sn wr (hI.below hbi) En sV.out (by omega);have HEX:=zC (A.ZO h3 hj.out);obtain ⟨nx,hnx⟩:=zB (A.next x.sn d);rw [<-hnx] at CN HEX;have aV:=zC hnx;have z_:=zC (show A.possible (K.bM x.nd x.l x.ss x.r) x.ss.length d=false by rw [<-K.abo (by rw [<-aO.out];exact hm4) HDR.out,<-oh.out];exact hzz.out.symm);have CE:=zC (show ∀ e ∈ (A.exts x.sn x.m).take (j + 1),A.possible (K.bM x.nd x.l x.ss x.r) x.ss.length e=false from λe he=>by
       rw [take_snoc hj.out] at he;rcases List.mem_append.1 he with he | he
       ·exact hbef.out e he
       ·rw [List.mem_singleton.1 he];exact z_.out)
      clear hnx hlt hs;go_wp2_with fail;refine CN.mono ?_;have XJ:=bel hbr hbi;rintro e w7 ⟨(⟨hnn,rfl⟩ | ⟨d',A',n',c',hnn,rfl,hI',hc'⟩),b7⟩
      ·have xG:=zC (show ∀ e ∈ A.exts x.sn x.m,A.possible (K.bM x.nd x.l x.ss x.r) x.ss.length e=false by
        have h9:=HEX.out;rw [hnn] at h9;have h8:=List.getElem?_eq_none_iff.1 h9.symm;have h7:=CE.out;rw [List.take_of_length_le h8] at h7;exact h7)
       have hb7:=bel XJ b7;have jb:=zC (show o6 x.sn x.m (.slice none 0 0) (.bool false) w7 < o6 x.sn x.m (.slice LA ln lc) (.bool true) wo by rw [Dh.out];exact Nat.succ_pos _);clear hnn CN;go_wp2_with fail;go_roundw
       case rel=>(go_light;exact ⟨hb7,.inl ⟨rfl,xG.out⟩⟩)
       case measure=>(go_light;exact jb.out)
      ·have hb7:=bel XJ b7;have jb:=zC (show o6 x.sn x.m (.slice A' n' c') (.bool true) w7 < o6 x.sn x.m (.slice LA ln lc) (.bool true) wo by
        rw [Dh.out,J6 hI'];have h9:=((A.R_ sV.out).1 d' (by rw [<-aV.out];exact hnn)).1;have h8:=A.RZ sV.out;rw [vI.out] at h8;omega)
       have La:=zC (show (A.exts x.sn x.m)[j + 1]? = some d' by rw [<-HEX.out];exact hnn);clear hnn CN;go_wp2_with fail;go_roundw
       case rel=>(go_light;exact ⟨hb7,.inr ⟨j + 1,d',A',n',c',rfl,rfl,hI',La.out,CE.out⟩⟩)
       case measure=>(go_light;exact jb.out)
namespace K
def lW (f b:Nat):List Int:=(List.range' f (b - f)).map λ(i:Nat)=>(i:Int)
theorem RX (f b:Nat):(lW f b).length=b - f:=by unfold lW;rw [List.length_map,List.length_range']
theorem RU {f b i:Nat} (h:i < b - f):(lW f b)[i]? = some ((f + i:Nat):Int):=by
 unfold lW;rw [List.getElem?_map,List.getElem?_range' h];simp
theorem ajY (f b i:Nat):(lW f b).drop i=lW (f + i) b:=by
 apply List.ext_getElem?;intro k;rw [List.getElem?_drop];by_cases h:i + k < b - f
 ·rw [RU h,RU (by omega)];congr 2;omega
 ·rw [List.getElem?_eq_none (by rw [RX];omega),List.getElem?_eq_none (by rw [RX];omega)]
theorem ajZ (b:Nat):lW 0 b=iota b:=by
 unfold lW iota;rw [Nat.sub_zero,List.range_eq_range']
end K
theorem Nw {w w':World} {r:Option Nat} {p:Addr} {v:Value} (h:w.cell? p=some v) (hg:w.grownBy w' r) (hne:r ≠ some p.block):w'.cell? p=some v:=(World.cell?_of_block (hg.block _ (cell_lt h) (λe=>hne e.symm))).trans h
theorem aid {w:World} {s n:Nat} {ad:Addr} {xs:List Value} (h:Rd w s (some ad) n xs) {k:Nat} (hk:k<=n):Rd w s (some (ad.add (k * s))) (n - k) (xs.drop (k * s)):=by
 refine ⟨by rw [List.length_drop,h.1,Nat.sub_mul],λh0=>?_⟩;obtain ⟨ad',e,hc⟩:=h.2 (by omega);injection e with e;subst e;refine ⟨_,rfl,λj u hu=>?_⟩;rw [List.getElem?_drop] at hu;rw [add_add];exact hc _ u hu
theorem ajn (b:Nat) (hb6:b<=6):∀ (n f:Nat) (A0:Option Addr) (c0:Nat) (w:World),n<=6->f<=b->Ints w A0 (b - f) (K.lW f b)->b - f<=c0->Calls Tryz.prog 79 #[.slice A0 (b - f) c0,.int .i64 n] w λe w'=>MR w w' (A.fK b n f) e:=by
 intro n;induction n with
 | zero =>
  intro f A0 c0 w _ hf hI hc;have hd:decide ((0:Int)=0)=true:=rfl;obtain ⟨w1,hw1⟩:=zB (w.alloc (.cells #[] 3));obtain ⟨g,hg⟩:=zB w.heap.size;have b1:Below w.heap.size w w1:=by rw [hw1];exact ry _ _
  have b2:Below w1.heap.size w1 (w1.alloc (.cells #[.slice (some ⟨g,0,none⟩) 0 0] 48)):=ry _ _;have hgw:w.heap.size<=g:=by rw [hg];exact zG _
  have hz1:w1.heap.size=g + 1:=by rw [hw1,hg];exact World.size_alloc _ _
  have afQ:w.heap.size<=g + 1:=by rw [<-hz1];exact b1.size
  have hr:m_ (w1.alloc (.cells #[.slice (some ⟨g,0,none⟩) 0 0] 48)) w1.heap.size 1 #[.slice (some ⟨g,0,none⟩) 0 0] [⟨some ⟨g,0,none⟩,0,0,[]⟩]:=⟨heap_alloc_new _ _,rfl,λk s hk=>by
   cases k with
   | zero=>simp at hk;subst hk;rfl
   | succ k=>simp at hk⟩
  rw [hz1] at hr;clear hz1;go_enter Tryz.func79,Tryz.ntmps79;go_upto_region 2 with fail;go_wp2_with fail;rw [<-hw1,<-hg];clear hw1 hg;go_ret;exact ⟨⟨_,1,1,[⟨some ⟨g,0,none⟩,0,0,[]⟩],rfl,hr.ai λs hs=>by rw [List.mem_singleton] at hs;rw [hs];exact ⟨⟨rfl,rfl,λh=>absurd h (Nat.lt_irrefl 0)⟩,zG _,λe=>by cases e⟩,zG _,rfl,λad e=>(by injection e with e;rw [<-e];exact afQ),λs hs h0=>(by rw [List.mem_singleton] at hs;rw [hs] at h0;exact absurd h0 (by simp))⟩,bel b1 b2⟩
 | succ n ih =>
  intro f A0 c0 w hn hf hI hc0;have hd:decide (((n + 1:Nat):Int)=0)=false:=by simp;omega
  have hd2:(((n + 1:Nat):Int) == 0)=false:=by simp;omega
  obtain ⟨N,yH⟩:=zB (n + 1);rw [<-yH] at hd hd2 ⊢;have kN:IntKind.i64.wrap ((N:Int) - 1)=(n:Int):=by rw [IntWalk.i64_in _ (by omega)];omega
  have HC:=zC (show A.fK b N f=(List.range' f (b - f)).flatMap λi=>(A.fK b n (i + 1)).map ((i:Int) :: ·) by rw [yH];rfl);have hN0:((N:Int)=0)=False:=by simp;omega
  obtain ⟨M,hM⟩:=zB (b - f);rw [<-hM] at hI hc0 HC ⊢;have uq:M<=6:=by omega
  have HM:=zC hM;clear yH hM;go_enter Tryz.func79,Tryz.ntmps79;go_wp2_with fail;clear hd hd2 hN0;go_loopw [5,6] (λv5 v6 wr=>∃ (i:Nat) (L:List Sh),v6=.int .i64 i/\i<=M/\wr.ownsRow w.heap.size 48 1 v5 L.length (L.map Sh.val)/\fH wr v5 L/\jJ w.heap.size L/\Below w.heap.size w wr/\L.length<=64 * i/\Hid (L.map Sh.l=(List.range' f i).flatMap λi=>(A.fK b n (i + 1)).map ((i:Int) :: ·))) (λ_ v6 _=>M - (intOf v6).toNat)
  case atStart=>exact ⟨0,[],rfl,Nat.zero_le _,World.ownsRow_nil _ _ _ _,λs hs=>(by cases hs),λs hs=>(by cases hs),Below.refl _ _,Nat.zero_le _,rfl⟩
  case round =>
   obtain ⟨i,L,rfl,hi,hown,hro,hnw,hbr,hll,hcl⟩:=hrel;by_cases hlt:i < M
   ·have i0:(0:Int)<=(i:Int):=by omega
    have i1:(i:Int) < (M:Int):=by omega
    have ki:IntKind.i64.wrap ((i:Int) + 1)=(i:Int) + 1:=IntWalk.i64_in _ (by omega);have ki3:(0:Int)<=(i:Int) + 1:=by omega
    have ki4:(i:Int) + 1<=(M:Int):=by omega
    have hd:decide ((i:Int) < (M:Int))=true:=zH i1;have hd2:decide (i < M)=true:=zH hlt;have IC:=hI.below hbr;obtain ⟨x_,OW⟩:∃ ad,A0=some ad:=by
     obtain ⟨ad,e,-⟩:=hI.2.2 (by omega);exact ⟨ad,e⟩
    obtain ⟨F,hF⟩:=zB (f + i);have hFM:F + 1<=b:=by have:=HM.out;omega
    have Ea:b - (F + 1)=M - (i + 1):=by have:=HM.out;omega
    obtain ⟨D,hD⟩:=zB (A.fK b n (F + 1));have hDl:D.length<=64:=by rw [hD];exact A.Ia hb6 (by omega) (by omega)
    have RE:Ints wr (some (x_.add (i + 1))) (M - (i + 1)) (K.lW (F + 1) b):=by
     have h:=IC.2;rw [OW] at h;have h:=aid h (k:=i + 1) (by omega);rw [Nat.mul_one] at h;refine ⟨by rw [K.RX,Ea],?_⟩;have e:intCells (K.lW (F + 1) b)=(intCells (K.lW f b)).drop (i + 1):=by
      unfold intCells;rw [<-List.map_drop,K.ajY,hF,Nat.add_assoc]
     rw [e];exact h
    have CS:∀ (A1:Option Addr) (c1:Nat),Ints wr A1 (M - (i + 1)) (K.lW (F + 1) b)->M - (i + 1)<=c1->Calls Tryz.prog 79 #[.slice A1 (M - (i + 1)) c1,.int .i64 n] wr λe w'=>MR wr w' D e:=λA1 c1 h1 h2=>by
     have h9:=ih (F + 1) A1 c1 wr (by omega) hFM (by rw [Ea];exact h1) (by rw [Ea];exact h2);rw [Ea,<-hD] at h9;exact h9
    have nY:=zC CS;have HD:=zC hD;have HF:=zC hF;have tC:=zC RE;have qN:=zC OW;clear hD hF OW RE CS Ea IC;go_upto_region 7 with fail;rw [qN.out];go_cut [7] from 19 to 25 (λv7 wc=>∃ E m c l,v7=.slice E m c/\eU wc E m l/\m<=c/\Hid (l.map Sh.l=D)/\(∀ ad,E=some ad->wr.heap.size<=ad.block)/\jJ wr.heap.size l/\Below wr.heap.size wr wc)
    case first =>
     by_cases hc:c0=i + 1
     ·have hc':(c0=i + 1)=True:=eq_true hc;have hm0:M - (i + 1)=0:=by omega
      have C9:=nY.out (some x_) (c0 - (i + 1)) (by
       have h9:=tC.out;rw [hm0] at h9 ⊢;exact ⟨h9.1,h9.2.1,λh=>absurd h (Nat.lt_irrefl 0)⟩) (by omega)
      clear hc hm0;go_wp2_with fail;refine C9.mono ?_;rintro e w2 ⟨⟨E,m,c,l,rfl,hSl,hmc,iW,ji,hln⟩,b2⟩;have CV:=zC iW;clear iW C9;go_wp2_with fail;go_meet;exact ⟨E,m,c,l,rfl,hSl,hmc,CV.out,ji,hln,b2⟩
     ·have hc':(c0=i + 1)=False:=eq_false hc;have hadd:x_.add (i + 1)=⟨x_.block,x_.off + (i + 1),none⟩:=by unfold Addr.add;simp
      have C9:=nY.out (some ⟨x_.block,x_.off + (i + 1),none⟩) (c0 - (i + 1)) (by rw [<-hadd];exact tC.out) (by omega);clear hc hadd;go_wp2_with fail;refine C9.mono ?_;rintro e w2 ⟨⟨E,m,c,l,rfl,hSl,hmc,iW,ji,hln⟩,b2⟩;have CV:=zC iW;clear iW C9;go_wp2_with fail;go_meet;exact ⟨E,m,c,l,rfl,hSl,hmc,CV.out,ji,hln,b2⟩
    case rest =>
    obtain ⟨E,m,c,l,rfl,hSl,hmc,iW,ji,hln,b2⟩:=hcut;rw [<-qN.out];obtain ⟨w2,hw2⟩:=zB wc;rw [<-hw2] at hSl b2;rw [<-hw2];clear hw2;have hml:m<=64:=by rw [hSl.1.1,<-List.length_map (f:=Sh.l),iW.out];exact hDl
    have bJ:∀ s ∈ l,s.n<=6:=λs hs=>by
     rw [(hSl.2 s hs).1.1];have h9:s.l ∈ A.fK b n (F + 1):=by rw [<-HD.out,<-iW.out];exact List.mem_map_of_mem hs
     have:=(A.xm.1 h9).1;omega
    have FE:0 < m->∀ ad,E=some ad->wr.heap.size<=ad.block/\ad.block < w2.heap.size:=λh0 ad e=>by
     obtain ⟨ad',s,e',-,-,hc⟩:=hSl.at_ h0;rw [e] at e';injection e' with e';exact ⟨ji ad e,by rw [e'];exact cell_lt hc⟩
    have FL:∀ s ∈ l,0 < s.n->∀ ad,s.A=some ad->wr.heap.size<=ad.block/\ad.block < w2.heap.size:=λs hs h0 ad e=>⟨hln s hs h0 ad e,(hSl.2 s hs).1.nM h0 e⟩;have hob:∀ g,u5.ownBlock=some g->g < wr.heap.size:=λg e=>(bG hown g e).2;have hown2:=own_below hown b2;have Jp:=hro.below b2;have hb2:=bel hbr b2;have hwr2:=b2.size;have Wi:((f + i:Nat):Int)=(F:Int):=by rw [HF.out]
    obtain ⟨z,hz⟩:∃ z:Int,z=(F:Int):=⟨_,rfl⟩;have HZ:=zC hz;have HIZ:=zC (show (K.lW f b)[i]? = some z by rw [K.RU (by have:=HM.out;omega),Wi,hz]);clear nY tC hown hro hbr b2 ji hln Wi hz hd hd2;go_wp2_with fail;obtain ⟨W2,hW2⟩:=zB w2.heap.size;obtain ⟨WQ,D8⟩:=zB wr.heap.size;rw [<-hW2,<-D8] at FE FL hwr2;rw [<-D8] at hob;go_loopw [5,8] (λv5 v8 wi=>∃ (j:Nat) (L':List Sh),v8=.int .i64 j/\j<=m/\wi.ownsRow w.heap.size 48 1 v5 L'.length (L'.map Sh.val)/\fH wi v5 L'/\jJ w.heap.size L'/\Below w.heap.size w wi/\W2<=wi.heap.size/\Hid (L'.length=L.length + j)/\eU wi E m l/\(∀ g,v5.ownBlock=some g->g < WQ\/W2<=g)/\Hid (L'.map Sh.l=L.map Sh.l ++ (l.take j).map λs=>z :: s.l)) (λ_ v8 _=>m - (intOf v8).toNat)
    case atStart=>exact ⟨0,L,rfl,Nat.zero_le _,hown2,Jp,hnw,hb2,Nat.le_of_eq hW2,rfl,hSl,λg e=>.inl (hob g e),by show _=_;rw [List.take_zero];simp⟩
    case round =>
     clear hown2 Jp hW2;obtain ⟨j,L',rfl,hj,wZ,ED,mF,uB,hWI,mg,DZ,wY,hcI⟩:=hrel;by_cases hjm:j < m
     ·obtain ⟨kT,s,hEA,hg,⟨hsI,hsc,hs0⟩,hc⟩:=DZ.at_ hjm;have j0:(0:Int)<=(j:Int):=by omega
      have j1:(j:Int) < (m:Int):=by omega
      have jd:decide ((j:Int) < (m:Int))=true:=zH j1;have zo:decide (j < m)=true:=zH hjm;have hsm:=zD hg;have h6:=bJ s hsm;have HG:=zC hg;have mW:=zC hsm;obtain ⟨MX,z',NY,hz',Ib⟩:=hI.at_ (show i < M from hlt);have cz:=(uB.cell (cell_lt Ib)).trans Ib;have NL:u5.ownBlock ≠ some (MX.add i).block:=λe=>by
       have h1:=(bG wZ _ e).1;have h2:=cell_lt Ib;omega
      have NE:u5.ownBlock ≠ some (kT.add j).block:=λe=>by
       rw [add_block] at e;have h1:=wY _ e;have h2:=FE (by omega) kT hEA;omega
      rw [HIZ.out] at hz';injection hz' with hz';subst hz';have X9:L'.length<=1000000:=by have:=mg.out;omega
      have rQ:Below wr.heap.size wr wr:=Below.refl _ _;have Fd:Below wr.heap.size wr wr.drew:=rQ.drew;have Fz:Below wr.heap.size wr (wr.alloc (.cells #[.int .i64 z] 3)):=ry _ _;have hmk:∀ w',Below wr.heap.size wr w'->(λw':World=>w'.cell? (MX.add i)=some (.int .i64 z)/\w'.cell? (kT.add j)=some (.slice s.A s.n s.c)) w':=λw' h=>⟨(h.cell (cell_lt cz)).trans cz,(h.cell (cell_lt hc)).trans hc⟩;have bC:=zC hmk;have S0:=bC.out _ rQ;have aW:=bC.out _ Fd;have xW:=bC.out _ Fz;have xX:=bC.out _ Fz.drew;obtain ⟨i3,hi3,ha0,ha1,ha2⟩:=info_parts Tryz.info3;obtain ⟨i48,afb,hb0,hb1,hb2⟩:=info_parts Tryz.info48;have hone:∀ u ∈ intCells s.l,u.oneCell'=true:=oU _;have hm63:1 + s.n<=maxLen:=by simp only [maxLen];omega
      have yX:(1 + s.n) * 8<=140737488355328:=by omega
      have hn63:L'.length + 1<=maxLen:=by simp only [maxLen];omega
      have hn47:(L'.length + 1) * 24<=140737488355328:=by omega
      have Cz:∀ g,(Value.slice (some ⟨wr.heap.size,0,none⟩) 1 1).ownBlock=some g->wr.heap.size<=g:=λg e=>by injection e with e;rw [<-e];exact zG _
      have Oa:(wr.alloc (.cells #[.int .i64 z] 3)).drew.ownsRow wr.heap.size 3 1 (.slice (some ⟨wr.heap.size,0,none⟩) 1 1) 1 [.int .i64 z]:=⟨rfl,.inr ⟨wr.heap.size,1,_,rfl,zG _,heap_alloc_new wr (.cells #[.int .i64 z] 3),zG _,by simp [maxLen],rfl,rfl⟩⟩;have Ra:=hsI.2.below Fz.drew;have Oz:True:=trivial;have afR:=uB.size;rw [hEA,NY];have zY:=zC hEA;have akh:=zC NY;clear hg h6 hsm hmk hEA NY cz Ib hc;go_upto_region 11 with fail
      go_region_held3 (λw':World=>w'.cell? (MX.add i)=some (.int .i64 z)/\w'.cell? (kT.add j)=some (.slice s.A s.n s.c))
       (first | with_reducible exact S7 | with_reducible exact vY | with_reducible exact S6 | with_reducible exact xX | with_reducible exact xW | with_reducible exact aW | with_reducible exact S0 | fail)
       (first
        | (have h0:=Oz;clear Oz;apply pg (hgd:=rfl) (s:=.tmp 37) (x:=.tmp 41) (t:=48) (ho:=rfl) (base:=wr.heap.size) (e:=3) (i:=i3) (z:=(.int .i64 0)) (size:=1) (bytes:=8) (ht:=Tryz.underlying48) (hi:=hi3) (hz:=ha0) (hsize:=ha1) (hby:=ha2) (hzs:=rfl) (hsz:=by decide) (v:=.slice (some ⟨_,0,none⟩) 1 1) (n:=1) (xs:=[.int .i64 z]) (hs:=rfl) (A:=s.A) (m:=s.n) (c:=s.c) (news:=intCells s.l) (hown:=Oa) (hr:=Ra) (hbase:=Fz.drew.size) (hx:=rfl) (h1:=hone) (h63:=hm63) (hbytes:=yX);intro v6 w6 hown6 fD gW;obtain ⟨B6,c6,rfl,OE,Az⟩:=dh hown6;have jh:Below wr.heap.size wr w6:=a_ Fz.drew fD Cz;have S6:=bC.out _ jh;have mQ:Below w6.heap.size w6 (w6.alloc (.cells #[.slice B6 (1 + s.n) c6] 48)):=ry _ _;have yh:=bel jh mQ;have vY:=bC.out _ yh;have hcap6:=Fq hown6;have O6:=own_below wZ yh;have Z6:=Nat.le_trans afR yh.size;have R6:Rd (w6.alloc (.cells #[.slice B6 (1 + s.n) c6] 48)) 1 (some ⟨w6.heap.size,0,none⟩) 1 [.slice B6 (1 + s.n) c6]:=Rd.of_block (heap_alloc_new w6 _) 1 1 rfl;have O1:∀ u ∈ [Value.slice B6 (1 + s.n) c6],u.oneCell'=true:=(λu hu=>by rw [show u=.slice B6 (1 + s.n) c6 from List.mem_singleton.1 hu];rfl))
        | (have h9:=O6;clear O6;apply pg (hgd:=rfl) (s:=.tmp 32) (x:=.tmp 43) (t:=97) (ho:=rfl) (base:=w.heap.size) (e:=48) (i:=i48) (z:=(.slice none 0 0)) (size:=1) (bytes:=24) (ht:=Tryz.underlying97) (hi:=afb) (hz:=hb0) (hsize:=hb1) (hby:=hb2) (hzs:=rfl) (hsz:=by decide) (v:=u5) (n:=L'.length) (xs:=L'.map Sh.val) (hs:=rfl) (A:=some ⟨w6.heap.size,0,none⟩) (m:=1) (c:=1) (news:=[.slice B6 (1 + s.n) c6]) (hown:=h9) (hr:=R6) (h1:=O1) (hbase:=Z6) (hx:=rfl) (h63:=hn63) (hbytes:=hn47);intro v7 w7 fF fE uA;have S7:=And.intro (Nw vY.1 fE NL) (Nw vY.2 fE NE))
        | fail)
      have hBl:∀ ad,B6=some ad->wr.heap.size<=ad.block/\ad.block < w6.heap.size:=λad e=>Az ad.block (by rw [e];rfl);have h6l:(w6.alloc (.cells #[.slice B6 (1 + s.n) c6] 48)).heap.size=w6.heap.size + 1:=World.size_alloc _ _;have gV:Ints w6 B6 (1 + s.n) (z :: s.l):=⟨by rw [List.length_cons,<-hsI.1];omega,OE⟩;have akx:=fE.size;have h7:=bG wZ;have h6z:=jh.size;have hBn:B6=none->(1 + s.n)=0/\c6=0:=λe=>by
       obtain ⟨ad,e2,-⟩:=OE.2 (by omega);rw [e] at e2;cases e2
      have HCI:=zC (show (L' ++ [(⟨B6,1 + s.n,c6,z :: s.l⟩:Sh)]).map Sh.l=L.map Sh.l ++ (l.take (j + 1)).map λs=>z :: s.l by
       rw [List.map_append,hcI.out,List.take_add_one,HG.out];simp)
      have HRO:=zC (show fH w7 v7 (L' ++ [(⟨B6,1 + s.n,c6,z :: s.l⟩:Sh)]) from by
       refine ((ED.below yh).grow fE uA).snoc ⟨(gV.below mQ).grow fE λ_ ad e e2=>?_,hcap6,hBn⟩ (λ_ ad e e2=>?_)
       ·have h1:=(hBl ad e).1;have h2:=(h7 _ e2.symm).2;omega
       ·have h1:=hBl ad e;rcases uA with e3 | e3
        ·rw [e3] at e2;have h2:=(h7 _ e2).2;omega
        ·rw [e3] at e2;injection e2 with e2;omega)
      have TR:=zC (show eU w7 E m l from (DZ.below yh).grown fE (λh0 ad e e2=>by
        have a1:=FE h0 ad e;have a2:=wY _ e2.symm;omega) (λt ht h0 ad e e2=>by
        have a1:=FL t ht h0 ad e;have a2:=wY _ e2.symm;omega))
      have hb7:Below w.heap.size w w7:=a_ (bel uB yh) fE (λg e=>(h7 g e).1);have afq:∀ g,v7.ownBlock=some g->g < WQ\/W2<=g:=λg e=>by
       rcases uA with e3 | e3
       ·rw [e3] at e;exact wY g e
       ·rw [e3] at e;injection e with e;omega
      have afp:=mF.snoc (y:=⟨B6,1 + s.n,c6,z :: s.l⟩) (λ_ ad e=>by
       have h1:=(hBl ad e).1;omega)
      have P6:w7.ownsRow w.heap.size 48 1 v7 (L' ++ [(⟨B6,1 + s.n,c6,z :: s.l⟩:Sh)]).length ((L' ++ [(⟨B6,1 + s.n,c6,z :: s.l⟩:Sh)]).map Sh.val):=by
       rw [List.length_append,List.map_append];exact fF
      have CX:=zC (show (L' ++ [(⟨B6,1 + s.n,c6,z :: s.l⟩:Sh)]).length=L.length + (j + 1) by rw [List.length_append,mg.out];rfl);have qm:W2<=w7.heap.size:=by omega
      clear S0 aW xW xX S6 vY S7 hone hm63 yX hn63 hn47 Cz Oa Ra Fd Fz rQ mQ yh hcap6 Z6 fF fE uA OE Az gV hBn h9 h0;go_wp2_with fail;go_roundw
      case rel=>(go_light;exact ⟨j + 1,_,by go_num,hjm,P6,HRO.out,afp,hb7,qm,CX.out,by first | exact TR.out | (rw [<-zY.out];exact TR.out),afq,HCI.out⟩)
      case measure=>(go_light;simp [intOf];omega)
     ·have jd:decide ((j:Int) < (m:Int))=false:=zI (by omega);have zo:decide (j < m)=false:=zI hjm;have HJ:=zC (show j=m by omega);have aeL:L'.length<=64 * (i + 1):=by have:=mg.out;omega
      have HCL:=zC (show L'.map Sh.l=(List.range' f (i + 1)).flatMap λi=>(A.fK b n (i + 1)).map ((i:Int) :: ·) by
       have hm:m=l.length:=hSl.1.1;rw [hcI.out,HJ.out,hm,List.take_length,A.aaA,List.flatMap_append,<-hcl.out,List.flatMap_singleton,<-HF.out,<-HD.out,<-iW.out,List.map_map,HZ.out];rfl)
      go_wp2_with fail;go_roundw
      case rel=>(go_light;exact ⟨i + 1,L',by go_num,hlt,wZ,ED,mF,uB,aeL,HCL.out⟩)
      case measure=>(go_light;simp [intOf];omega)
   ·have hd:decide ((i:Int) < (M:Int))=false:=zI (by omega);have hd2:decide (i < M)=false:=zI hlt;have HIM:=zC (show i=M by omega);go_wp2_with fail;go_ret;obtain ⟨E,c,rfl,hS,hc,hE⟩:=BN hown rfl hro;refine ⟨⟨E,_,c,L,rfl,hS,hc,?_,hE,hnw⟩,hbr⟩;rw [hcl.out,HC.out,HIM.out]
def MQ (B:Nat) (bl:List BV):Prop:=∀ y ∈ bl,∀ g,Ft y.V y.vn g\/Ft y.LA y.ln g->B<=g
def Ul (w w':World) (p:List (Int × List Int × List Lb)) (er:Int) (e:Ending):Prop :=
 (∃ A n c bl,e=.returned (.tuple #[.slice A n c,.int .i64 er])/\fA w' A n bl/\bl.map BV.pr=p/\(∀ g,UB A n bl g->w.heap.size<=g)/\n<=c/\sO n bl)/\Below w.heap.size w w'
theorem aa3 {w w':World} {er:Int} (hb:Below w.heap.size w w'):Ul w w' [] er (.returned (.tuple #[.slice none 0 0,.int .i64 er])) :=
 ⟨⟨none,0,0,[],rfl,⟨⟨rfl,rfl,λh=>absurd h (by omega)⟩,λy h=>by cases h⟩,rfl,λg e=>e.elim (λe=>absurd e.1 (Nat.lt_irrefl 0)) (λ⟨y,h,_⟩=>by cases h),zG _,⟨by omega,λy h=>by cases h⟩⟩,hb⟩
structure vV (ws w:World) (v:Value) (BS:Nat) (own:List Sh) (E:Option Addr) (m:Nat) (l:List Sh):Prop where
 row:w.ownsRow BS 48 1 v own.length (own.map Sh.val)
 ok:fH w v own
 bw:Below ws.heap.size ws w
 sh:eU w E m l
 off:je E m v
 lk:fH w v l
theorem vV.below {ws w w':World} {v:Value} {BS:Nat} {own:List Sh} {E:Option Addr} {m:Nat} {l:List Sh} (h:vV ws w v BS own E m l) (hb:Below w.heap.size w w'):vV ws w' v BS own E m l :=
 ⟨own_below h.row hb,h.ok.below hb,bel h.bw hb,h.sh.below hb,h.off,h.lk.below hb⟩
theorem vV.app {ws w w':World} {v v':Value} {BS:Nat} {own:List Sh} {E:Option Addr} {m:Nat} {l:List Sh} (h:vV ws w v BS own E m l) {y:Sh} (hy:y ∈ l) (hg:w.grownBy w' v.ownBlock) (ha:v'.ownBlock=v.ownBlock\/v'.ownBlock=some w.heap.size) (hr:w'.ownsRow BS 48 1 v' (own.length + 1) ((own ++ [y]).map Sh.val)) (hBS:BS=ws.heap.size):vV ws w' v' BS (own ++ [y]) E m l:=by
 have h1:=h.lk.grow hg ha;exact ⟨by rw [List.length_append];exact hr,(h.ok.grow hg ha).snoc (h1 y hy).1 (h1 y hy).2,a_ h.bw hg (λg e=>by rw [<-hBS];exact (bG h.row g e).1),h.sh.grown hg (λh0 ad e e2=>h.off h0 ad e e2.symm) (λs hs h0 ad e e2=>(h.lk s hs).2 h0 ad e e2.symm),h.off.grow h.sh ha,h1⟩
structure vF (w1 w:World) (v:Value) (B1:Nat) (bl:List BV) (E:Option Addr) (n:Nat) (own:List Sh):Prop where
 row:w.ownsRow B1 90 3 v bl.length (bl.flatMap BV.cells)
 ok:kM w v bl
 bw:Below w1.heap.size w1 w
 sh:eU w E n own
 off:je E n v
 lk:fH w v own
theorem vF.below {w1 w w':World} {v:Value} {B1:Nat} {bl:List BV} {E:Option Addr} {n:Nat} {own:List Sh} (h:vF w1 w v B1 bl E n own) (hb:Below w.heap.size w w'):vF w1 w' v B1 bl E n own :=
 ⟨own_below h.row hb,h.ok.below hb,bel h.bw hb,h.sh.below hb,h.off,h.lk.below hb⟩
theorem vF.app {w1 w w':World} {v v':Value} {B1:Nat} {bl:List BV} {E:Option Addr} {n:Nat} {own:List Sh} (h:vF w1 w v B1 bl E n own) (hB:B1=w1.heap.size) {y:BV} (hy:(Ints w y.V y.vn y.v/\dX w y.LA y.ln y.lb)/\je y.V y.vn v/\je y.LA y.ln v/\(y.vn<=y.vc/\y.vn<=6/\y.ln<=384)) (hg:w.grownBy w' v.ownBlock) (ha:v'.ownBlock=v.ownBlock\/v'.ownBlock=some w.heap.size) (hr:w'.ownsRow B1 90 3 v' (bl.length + 1) ((bl ++ [y]).flatMap BV.cells)):vF w1 w' v' B1 (bl ++ [y]) E n own :=
 ⟨by rw [List.length_append];exact hr,(h.ok.snoc hy).grow hg ha,a_ h.bw hg (λg e=>by rw [<-hB];exact (bG h.row g e).1),h.sh.grown hg (λh0 ad e e2=>h.off h0 ad e e2.symm) (λs hs h0 ad e e2=>(h.lk s hs).2 h0 ad e e2.symm),h.off.grow h.sh ha,h.lk.grow hg ha⟩
theorem aiS (x:Cs) (w:World) (hx:bF w x) (h4:K.aH x.nd x.l x.ss x.r=0->x.m<=4) :
  Calls Tryz.prog 23 #[.agg #[.int .i64 x.nd,.slice x.A x.n x.c],.slice x.SA x.sn x.sc,.slice x.B x.m x.d] w λe w'=>Ul w w' ((K.refute x.nd x.l x.ss x.r).1.map λb=>((b.1:Int),b.2)) (K.refute x.nd x.l x.ss x.r).2 e:=by
 obtain ⟨w0,hw0⟩:=zB (w.alloc (.cells #[.int .i64 x.nd,.slice x.A x.n x.c] 24));have hN0:Net w0 w.heap.size x.nd x.A x.n x.c:=by rw [hw0];exact Net.new w x.nd x.A x.n x.c
 have hb0:=zA hw0;obtain ⟨G0,hG0⟩:=zB w.heap.size;rw [<-hG0] at hN0;have bf:=zC hx.shifts.1.1;have aO:=zC hx.aN.1;have CP:=Rn x w0 (hx.below hb0) h4;have p0:=hN0.c0;have p1:=hN0.c1;go_enter Tryz.func23,Tryz.ntmps23;go_upto_region 1 with fail;rw [<-hw0,<-hG0];clear hw0 hG0;go_wp2_with fail;refine CP.mono ?_;rintro e w1 ⟨⟨PA,pn,pc,pl,rfl,-,-,-,-⟩,b1⟩;obtain ⟨ce,hce⟩:=zB ((K.plan x.nd x.l x.ss x.r).2);rw [<-hce];have hN1:=hN0.below b1;have hb1:=bel hb0 b1;clear CP p0 p1 hN0 b1;by_cases hz:ce=0
 ·have HX:=zC (show K.refute x.nd x.l x.ss x.r=([],7) from K.aaL (by rw [<-hce];exact hz));have hd:(ce == 0)=true:=by simp [hz]
  have hd2:decide (ce=0)=true:=by simp [hz]
  clear hce hz;go_wp2_with fail;go_ret2
  rw [HX.out];exact aa3 hb1
 by_cases lT:ce=4;rotate_left
 ·have HX:=zC (show K.refute x.nd x.l x.ss x.r=([],ce) by rw [hce] at hz lT ⊢;exact K.aaK hz lT);have hd:(ce == 0)=false:=by simp [hz]
  have hd2:(ce != 4)=true:=by simp [bne,lT]
  clear hce hz lT;go_wp2_with fail;go_ret2
  rw [HX.out];exact aa3 hb1
 subst lT;have HR:=zC (K.aaJ hce.symm);have aJ:=zC (K.aax hce.symm);clear hce hz;have hm4:x.m<=4:=h4 aJ.out;have qC:x.sn<=4:=by rw [hx.shifts.1.1];exact (K.gQ aJ.out).2.1
 clear h4;go_upto_region 7 with fail;go_wp2_with fail;go_loopw [10,11] (λv10 v11 wr=>∃ k:Nat,v11=.int .i64 k/\k<=x.m/\wr.ownsRow w1.heap.size 3 1 v10 k (intCells (K.iota k))/\Below w1.heap.size w1 wr) (λ_ v11 _=>x.m - (intOf v11).toNat)
 case atStart=>exact ⟨0,rfl,Nat.zero_le _,World.ownsRow_nil _ _ _ _,Below.refl _ _⟩
 case round =>
  obtain ⟨k,rfl,hk,hown,hbk⟩:=hrel;by_cases hkm:k < x.m
  ·have kd:decide ((k:Int) < (x.m:Int))=true:=zH (by omega);have qE:decide (k < x.m)=true:=zH hkm;obtain ⟨g9,jE⟩:=zB wr.heap.size;obtain ⟨w6,hw6⟩:=zB (wr.alloc (.cells #[.int .i64 k] 3));have b6:Below wr.heap.size wr w6:=by rw [hw6];exact ry _ _
   have fP:w6.heap[g9]? = some (.cells #[.int .i64 k] 3 (0,0)):=by rw [hw6,jE];exact heap_alloc_new _ _
   have hown6:=own_below hown b6;have hb6:=bel hbk b6;have Pn:w1.heap.size<=w6.heap.size:=hb6.size;have hk6:k<=1000000:=by omega
   have HE:=zC (K.YS k);go_wp2_with (first
    | (at_builtin;rw [<-hw6,<-jE];refine rq rfl _ _ rfl w1.heap.size _ k (K.iota k) rfl hown6 g9 k rfl fP hk6 Pn ?_;intro v7 w7 fF uD _)
    | fail)
   have hb7:Below w1.heap.size w1 w7:=a_ hb6 uD (λg e=>(bG hown6 g e).1);go_roundw
   case rel=>(go_light;exact ⟨k + 1,by go_num,hkm,by rw [HE.out];exact fF,hb7⟩)
   case measure=>(go_light;simp [intOf];omega)
  have kd:decide ((k:Int) < (x.m:Int))=false:=zI (by omega);have qE:decide (k < x.m)=false:=zI hkm;have wW:k=x.m:=by omega
  rw [wW] at hown;have Xu:=hown;obtain ⟨AA,ac,rfl,hAr,hAf⟩:=dh hown;have hac:x.m<=ac:=Fq Xu;have V8:Ints wr AA x.m (K.lW 0 x.m):=by
   rw [K.ajZ];exact ⟨(K.Jz _).symm,hAr⟩
  obtain ⟨w2,hw2⟩:=zB wr;rw [<-hw2] at V8 hbk;rw [<-hw2];clear hw2 wW hAr hAf Xu hown hkm;have hb2:=bel hb1 hbk;have aY:=hN1.below hbk;have hx2:=hx.below hb2;obtain ⟨B1,hB1⟩:=zB w2.heap.size;have HB1:=zC hB1;have hwB:w.heap.size<=B1:=by rw [hB1];exact hb2.size
  clear hB1;go_wp2_with fail;clear kd qE;go_loopw [12,13] (λv12 v13 wr=>∃ (s:Nat) (bl:List BV),v13=.int .i64 s/\s<=x.sn/\wr.ownsRow B1 90 3 v12 bl.length (bl.flatMap BV.cells)/\kM wr v12 bl/\MQ B1 bl/\bl.length<=1000 * s/\Hid (bl.map BV.pr=K.t_ x.nd x.l x.ss x.r s)/\Below w2.heap.size w2 wr) (λ_ v13 _=>x.sn - (intOf v13).toNat)
  case atStart=>exact ⟨0,[],rfl,Nat.zero_le _,World.ownsRow_nil _ _ _ _,λy hy=>(by cases hy),λy hy=>(by cases hy),Nat.zero_le _,rfl,Below.refl _ _⟩
  case round =>
   obtain ⟨s,bl,rfl,hs,hown,rV,hnb,hbl,hcl,hbr⟩:=hrel;obtain ⟨ws,hws⟩:=zB wr;rw [<-hws] at hown rV hbr;rw [<-hws];clear hws;by_cases hlt:s < x.sn;rotate_left
   ·have hse:s=x.ss.length:=by have:=bf.out;omega
    have hd:decide ((s:Int) < (x.sn:Int))=false:=zI (by omega);have hd2:decide (s < x.sn)=false:=zI hlt;have XM:=hown;obtain ⟨A9,c9,rfl,jO,hfr⟩:=dh hown;have oN:bl.length<=c9:=Fq XM;have HB:=zC (show bl.map BV.pr=(K.refute x.nd x.l x.ss x.r).1.map λb=>((b.1:Int),b.2) by rw [HR.out,K.U7,<-hse];exact hcl.out);have HX:=zC (show (K.refute x.nd x.l x.ss x.r).2=0 by rw [HR.out]);have hbn:bl.length<=1000000000:=by omega
    clear hse hown XM;go_wp2_with fail;go_ret2
    rw [HX.out];refine ⟨⟨A9,bl.length,c9,bl,rfl,⟨⟨rfl,jO⟩,λy hy=>(rV y hy).1⟩,HB.out,?_,oN,⟨hbn,λy hy=>by obtain ⟨-,-,-,h1,h2,h3⟩:=rV y hy;exact ⟨h1,by omega,by omega⟩⟩⟩,bel hb2 hbr⟩;rintro g (⟨-,ad,e,rfl⟩ | ⟨y,hy,e⟩)
    ·exact Nat.le_trans hwB (hfr ad.block (by rw [e];rfl)).1
    ·exact Nat.le_trans hwB (hnb y hy g e)
   have i0:(0:Int)<=(s:Int):=by omega
   have i1:(s:Int) < (x.sn:Int):=by omega
   have d0:decide ((s:Int) < (x.sn:Int))=true:=zH i1;have d0':decide (s < x.sn)=true:=zH hlt;have hbs:=bel hb2 hbr;have hNs:=aY.below hbr;have hxs:=hx2.below hbr;have hAs:=V8.below hbr;obtain ⟨au,sS,gq,hsS,qf,s0,s1,s2,s3,s4,s5⟩:=hx2.shifts.at_ hlt;have dW:=zC hsS;have mW:=zC (zD hsS);have pK:=zC gq;have hmk:∀ w',Below w2.heap.size w2 w'->(λw':World=>w'.cell? ⟨G0,0,none⟩=some (.int .i64 x.nd)/\w'.cell? ⟨G0,1,none⟩=some (.slice x.A x.n x.c)/\w'.cell? (au.add (s * 6))=some (.int .i64 sS.day)/\w'.cell? ⟨(au.add (s * 6)).block,(au.add (s * 6)).off + 1,none⟩=some (.int .i64 sS.ag)/\w'.cell? ⟨(au.add (s * 6)).block,(au.add (s * 6)).off + 2,none⟩=some (.int .i64 sS.start)/\w'.cell? ⟨(au.add (s * 6)).block,(au.add (s * 6)).off + 3,none⟩=some (.int .i64 sS.end_)/\w'.cell? ⟨(au.add (s * 6)).block,(au.add (s * 6)).off + 4,none⟩=some (.int .i64 sS.aj)/\w'.cell? ⟨(au.add (s * 6)).block,(au.add (s * 6)).off + 5,none⟩=some (.slice sS.A sS.n sS.c)) w':=λw' h=>by
    have mv:∀ {p:Addr} {v:Value},w2.cell? p=some v->w'.cell? p=some v:=λg=>(h.cell (cell_lt g)).trans g;exact ⟨mv aY.c0,mv aY.c1,mv s0,mv s1,mv s2,mv s3,mv s4,mv s5⟩
   have bC:=zC hmk;obtain ⟨FE,AB⟩:=zB (K.bM x.nd x.l x.ss x.r s);have xI:=zC AB;have HFV:=zC (show ∀ v,FE v=((K.gG x.nd x.l sS x.r v).2 == 0) from λv=>by rw [AB];unfold K.bM;rw [hsS]);obtain ⟨BS,hBS⟩:=zB ws.heap.size;have kP:=zC hBS;clear AB hsS gq hmk qf s0 s1 s2 s3 s4 s5 hBS;go_upto_region 16 with fail;go_wp2_with fail;clear d0 d0';go_loopw [14,15] (λv14 v15 wi=>∃ (n:Nat) (own:List Sh),v15=.int .i64 (n + 1:Nat)/\n<=x.m/\wi.ownsRow BS 48 1 v14 own.length (own.map Sh.val)/\fH wi v14 own/\jJ BS own/\(∀ y ∈ own,y.n<=6/\y.l.length<=4)/\own.length<=64 * n/\Hid (own.map Sh.l=A.dS FE [] (A.upto x.m n))/\Below ws.heap.size ws wi) (λ_ v15 _=>x.m + 1 - (intOf v15).toNat)
   case atStart=>exact ⟨0,[],rfl,Nat.zero_le _,World.ownsRow_nil _ _ _ _,λy hy=>(by cases hy),λy hy=>(by cases hy),λy hy=>(by cases hy),Nat.zero_le _,rfl,Below.refl _ _⟩
   case round =>
    obtain ⟨n,own,rfl,hn,hownO,nH,uH,Au,hlO,Bc,qp⟩:=hrel;obtain ⟨wk,hwk⟩:=zB wr;rw [<-hwk] at hownO nH qp;rw [<-hwk];clear hwk;obtain ⟨N1,IG⟩:=zB (n + 1);have zZ:=zC IG;rw [<-IG];by_cases hnm:n < x.m
    ·have k0:decide ((N1:Int)<=(x.m:Int))=true:=zH (by omega);have k0':decide (N1<=x.m)=true:=zH (by omega);have akm:N1<=x.m:=by omega
     clear IG;have CS:=ajn x.m (by omega) N1 0 AA ac wk (by omega) (Nat.zero_le _) (by rw [Nat.sub_zero];exact hAs.below qp) (by rw [Nat.sub_zero];exact hac);rw [Nat.sub_zero] at CS;have hDl:(A.fK x.m N1 0).length<=64:=A.Ia (by omega) (by omega) (by omega);obtain ⟨D,hD⟩:=zB (A.fK x.m N1 0);rw [<-hD] at CS hDl;have HD:=zC hD;clear hD;go_wp2_with fail;refine CS.mono ?_;rintro e wl ⟨⟨E,m,c,l,rfl,hSl,hmc,iW,ji,hln⟩,l9⟩;have hml:m<=64:=by rw [hSl.1.1,<-List.length_map (f:=Sh.l),iW];exact hDl
     have bJ:∀ t ∈ l,t.n<=6/\t.l.length<=4/\t.l.Pairwise (· < ·)/\∀ i ∈ t.l,0<=i/\i < (x.m:Int):=λt ht=>by
      have h9:t.l ∈ A.fK x.m N1 0:=by rw [<-HD.out,<-iW];exact List.mem_map_of_mem ht
      obtain ⟨h1,h2,h3⟩:=A.xm.1 h9;have h4:=(hSl.2 t ht).1.1;exact ⟨by omega,by omega,h2,λi hi=>by have:=h3 i hi;omega⟩
     have Eu:je E m u14:=λ_ ad e e2=>by
      have h1:=(bG hownO _ e2).2;have h2:=ji ad e;omega
     have EC:fH wl u14 l:=λt ht=>⟨hSl.2 t ht,λh0 ad e e2=>by
      have h1:=(bG hownO _ e2).2;have h2:=hln t ht h0 ad e;omega⟩
     have M0:vV ws wl u14 BS own E m l:=⟨own_below hownO l9,nH.below l9,bel qp l9,hSl,Eu,EC⟩;have PT:jJ BS l:=hln.mono (by rw [kP.out];exact qp.size);have CV:=zC iW;have HL6:=zC bJ;have oh:=zC hSl.1.1;clear CS hownO nH qp ji hln l9 Eu EC hSl iW bJ;go_wp2_with fail;clear k0 k0';go_loopw [14,17] (λv14 v17 wj=>∃ (j:Nat) (own':List Sh),v17=.int .i64 j/\j<=m/\vV ws wj v14 BS own' E m l/\jJ BS own'/\(∀ y ∈ own',y.n<=6/\y.l.length<=4)/\own'.length<=own.length + j/\Hid (own'.map Sh.l=A.dS FE [] (A.upto x.m n ++ (l.take j).map Sh.l))) (λ_ v17 _=>m - (intOf v17).toNat)
     case atStart=>exact ⟨0,own,rfl,Nat.zero_le _,M0,uH,Au,zG _,by show _=_;rw [List.take_zero,List.map_nil,List.append_nil];exact Bc.out⟩
     case round =>
      clear M0;obtain ⟨j,own',rfl,hj,M,mF,rE,mg,hcI⟩:=hrel;obtain ⟨wj,zg⟩:=zB wr;rw [<-zg] at M;rw [<-zg];clear zg;by_cases hjm:j < m
      ·obtain ⟨E2,c2,rfl,hS2,hc2,-⟩:=BN M.row rfl M.ok;obtain ⟨kT,t,hEA,hg,⟨hI,hsc,hs0⟩,hc⟩:=M.sh.at_ hjm;have j0:(0:Int)<=(j:Int):=by omega
       have j1:(j:Int) < (m:Int):=by omega
       have jd:decide ((j:Int) < (m:Int))=true:=zH j1;have zo:decide (j < m)=true:=zH hjm;have kC:=zD hg;obtain ⟨h6,NU,hso,hbd⟩:=HL6.out t kC;have EI:t.n<=1000000000:=by omega
       have xR:=zC kC;have HG:=zC hg;have h_:=zC (show (l.take (j + 1)).map Sh.l=(l.take j).map Sh.l ++ [t.l] by rw [List.take_add_one,hg,List.map_append];rfl);have zY:=zC hEA;rw [hEA];clear hg kC hso hbd hEA;have hol:own'.length<=1000:=by omega
       go_wp2_with fail;clear jd zo;go_loopw [18,19] (λv18 v19 wh=>∃ k:Nat,v19=.int .i64 k/\k<=own'.length/\v18=.bool ((own'.take k).any λu=>A.part u.l t.l)/\Below wj.heap.size wj wh) (λ_ v19 _=>own'.length - (intOf v19).toNat)
       case atStart=>exact ⟨0,rfl,Nat.zero_le _,rfl,Below.refl _ _⟩
       case round =>
        obtain ⟨k,rfl,hk,rfl,oM⟩:=hrel;obtain ⟨wh,hwh⟩:=zB wr;rw [<-hwh] at oM;rw [<-hwh];clear hwh;by_cases hko:k < own'.length
        ·have k0:(0:Int)<=(k:Int):=by omega
         have k1:(k:Int) < (own'.length:Int):=by omega
         have kd:decide ((k:Int) < (own'.length:Int))=true:=zH k1;have qE:decide (k < own'.length)=true:=zH hko;obtain ⟨adO,u,yI,hu,⟨IE,-,-⟩,cu⟩:=(hS2.below oM).at_ hko;have hun:=(rE u (zD hu)).1;have aV:=zC (VD (p:=λu:Sh=>A.part u.l t.l) hu);obtain ⟨z,hz⟩:=zB ((own'.take k).any λu=>A.part u.l t.l);rw [<-hz] at aV ⊢;obtain ⟨z2,hz2⟩:=zB (A.part u.l t.l);have HZ2:=zC hz2;have HOA:=zC yI;have hIt:=hI.below oM;rw [yI];clear hz hz2 yI hu;have YC:(hc:wj.cell? (kT.add j)=some (.slice t.A t.n t.c))=hc:=rfl;have ce:=(oM.cell (cell_lt hc)).trans hc;cases z
         ·have HQ:=zC (show ((own'.take (k + 1)).any λu=>A.part u.l t.l)=z2 by rw [aV.out,HZ2.out,Bool.false_or]);have CT:∀ i:ah wh,Calls Tryz.prog 80 #[.slice u.A u.n u.c,.slice t.A t.n t.c] i.val λe w'=>e=.returned (.bool z2)/\Below i.val.heap.size i.val w':=λi=>by
           rw [HZ2.out];exact abn u.A u.n u.c u.l t.A t.n t.c t.l i.val (IE.below i.property) (by omega) (hIt.below i.property) (by omega)
          have q0:=ah.cell cu;have q1:=ah.cell ce;clear aV YC;go_upto_region 27 with fail;refine dU (by kernel_rfl) (by kernel_rfl) ?_;repeat (go_big_quiet_step ((go_at_call 80;exact ah.calls (CT _))))
          refine wpQuiet_nil ?_;rintro w4 ⟨⟨w4,b4⟩,rfl⟩;have hb4:=bel oM b4;clear q0 q1 CT;go_wp2_with fail;go_roundw
          case rel=>(go_light;exact ⟨k + 1,by go_num,hko,by rw [HQ.out],hb4⟩)
          case measure=>(go_light;simp [intOf];omega)
         ·have HQ:=zC (show ((own'.take (k + 1)).any λu=>A.part u.l t.l)=true by rw [aV.out,Bool.true_or]);clear aV YC cu ce;go_upto_region 27 with fail;refine dU (by kernel_rfl) (by kernel_rfl) ?_;repeat (go_big_quiet_step (fail))
          refine wpQuiet_nil ?_;rintro w4 ⟨⟨w4,b4⟩,rfl⟩;have hb4:=bel oM b4;go_wp2_with fail;go_roundw
          case rel=>(go_light;exact ⟨k + 1,by go_num,hko,by rw [HQ.out],hb4⟩)
          case measure=>(go_light;simp [intOf];omega)
        have kd:decide ((k:Int) < (own'.length:Int))=false:=zI (by omega);have qE:decide (k < own'.length)=false:=zI hko;have hall:(own'.take k)=own':=List.take_of_length_le (by omega);obtain ⟨z,hz⟩:=zB (own'.any λu=>A.part u.l t.l);rw [hall,<-hz];have HZ:=zC (show ((own'.map Sh.l).any λu=>A.part u t.l)=z by rw [hz,List.any_map];rfl);obtain ⟨wd,hwd⟩:=zB wh;rw [<-hwd] at oM;rw [<-hwd];clear hwd hz hall;have Md:=M.below oM;have qi:=hI.below oM;have ce:=(oM.cell (cell_lt hc)).trans hc;have hxd:bF wd x:=hxs.below Md.bw;have DN:=hxd.case mW.out;have hv4:K.aP (x.one sS).nd (x.one sS).l (x.one sS).s (x.one sS).r t.l=true->t.l.length<=4:=λ_=>NU;obtain ⟨Y,hY⟩:=zB (K.gG x.nd x.l sS x.r t.l);have HY:=zC hY;have vJ:=zC (show FE t.l=(Y.2 == 0) by rw [HFV.out,hY]);have jb:=zC (show ∀ w',Below wd.heap.size wd w'->(λw':World=>w'.cell? ⟨G0,0,none⟩=some (.int .i64 x.nd)/\w'.cell? ⟨G0,1,none⟩=some (.slice x.A x.n x.c)/\w'.cell? (au.add (s * 6))=some (.int .i64 sS.day)/\w'.cell? ⟨(au.add (s * 6)).block,(au.add (s * 6)).off + 1,none⟩=some (.int .i64 sS.ag)/\w'.cell? ⟨(au.add (s * 6)).block,(au.add (s * 6)).off + 2,none⟩=some (.int .i64 sS.start)/\w'.cell? ⟨(au.add (s * 6)).block,(au.add (s * 6)).off + 3,none⟩=some (.int .i64 sS.end_)/\w'.cell? ⟨(au.add (s * 6)).block,(au.add (s * 6)).off + 4,none⟩=some (.int .i64 sS.aj)/\w'.cell? ⟨(au.add (s * 6)).block,(au.add (s * 6)).off + 5,none⟩=some (.slice sS.A sS.n sS.c)/\w'.cell? (kT.add j)=some (.slice t.A t.n t.c)) w' from λw' h=>by
         obtain ⟨a0,a1,a2,a3,a4,a5,a6,a7⟩:=bC.out w' (bel (bel hbr Md.bw) h);exact ⟨a0,a1,a2,a3,a4,a5,a6,a7,(h.cell (cell_lt ce)).trans ce⟩)
        have akS:=Md.bw.size;rw [pK.out];clear hY ce hko hk;have hbd0:Below wd.heap.size wd wd:=Below.refl _ _;have S0:=jb.out _ hbd0;have ba:Below wd.heap.size wd (wd.alloc (.cells #[.int .i64 0,.slice none 0 0,.slice none 0 0,.int .i64 0] 80)):=(Below.refl _ _).alloc (zG _) _;have qV:=jb.out _ ba;have aW:=jb.out _ hbd0.drew;have qW:=jb.out _ ba.drew;have hAt:=λw' (h:Below wd.heap.size wd w')=>DN.below h;go_upto_region 28 with fail;go_cut [20,21] from 84 to 97 (λvp ve wc=>ve=.int .i64 Y.2/\Below wd.heap.size wd wc)
        case first =>
         go_region_held3 (λw':World=>w'.cell? ⟨G0,0,none⟩=some (.int .i64 x.nd)/\w'.cell? ⟨G0,1,none⟩=some (.slice x.A x.n x.c)/\w'.cell? (au.add (s * 6))=some (.int .i64 sS.day)/\w'.cell? ⟨(au.add (s * 6)).block,(au.add (s * 6)).off + 1,none⟩=some (.int .i64 sS.ag)/\w'.cell? ⟨(au.add (s * 6)).block,(au.add (s * 6)).off + 2,none⟩=some (.int .i64 sS.start)/\w'.cell? ⟨(au.add (s * 6)).block,(au.add (s * 6)).off + 3,none⟩=some (.int .i64 sS.end_)/\w'.cell? ⟨(au.add (s * 6)).block,(au.add (s * 6)).off + 4,none⟩=some (.int .i64 sS.aj)/\w'.cell? ⟨(au.add (s * 6)).block,(au.add (s * 6)).off + 5,none⟩=some (.slice sS.A sS.n sS.c)/\w'.cell? (kT.add j)=some (.slice t.A t.n t.c))
          (first | with_reducible exact Dp | with_reducible exact Dn | with_reducible exact xZ | with_reducible exact S1 | with_reducible exact qW | with_reducible exact qV | with_reducible exact aW | with_reducible exact S0 | fail)
          (first
           | (go_at_call 81;refine (UY (x.one sS) t.A t.n t.c t.l _ (hAt _ ?_) (qi.below ?_) EI hv4).mono ?_;(first | with_reducible exact hbd0 | with_reducible exact ba | with_reducible exact hbd0.drew | with_reducible exact ba.drew);(first | with_reducible exact hbd0 | with_reducible exact ba | with_reducible exact hbd0.drew | with_reducible exact ba.drew);rw [show K.gG (x.one sS).nd (x.one sS).l (x.one sS).s (x.one sS).r t.l=Y from HY.out.symm];rintro e w5 ⟨⟨A0,n0,c0,A1,n1,c1,rfl,hI0,hI1,hf0,hf1⟩,hbn⟩;(first | (have b5:=bel hbd0.drew hbn;have ww:=bel b5 ((Below.refl _ _).alloc (zG _) (.cells #[.int .i64 0,.slice A0 n0 c0,.slice A1 n1 c1,.int .i64 Y.1.end_] 80));have Dn:=jb.out _ ww;have xZ:=jb.out _ (bel b5 ((Below.refl _ _).alloc (zG _) (.cells #[.int .i64 0,.slice none 0 0,.slice none 0 0,.int .i64 0] 80)))) | (have b5:=bel ba.drew hbn;have dA:=az hbn (heap_alloc_new wd (.cells #[.int .i64 0,.slice none 0 0,.slice none 0 0,.int .i64 0] 80));have b9:=jM b5 (zG _) (.int .i64 0) (.slice A0 n0 c0) (.slice A1 n1 c1) (.int .i64 Y.1.end_);have Dp:=jb.out _ b9;obtain ⟨t0,t1,t2,t3⟩:=gm.cells (h:=0) dA;have tf:=gI dA));have S1:=jb.out _ b5)
           | fail)
         ·go_wp2_with fail;go_meet
          case rel=>(go_light;exact ⟨rfl,ww⟩)
         ·go_wp2_with fail;go_meet
          case rel=>(go_light;exact ⟨rfl,b9⟩)
        case rest =>
        obtain ⟨rfl,hbc⟩:=hcut;rw [<-pK.out];have M1:=Md.below hbc;have cE:=(hbc.cell (cell_lt ((oM.cell (cell_lt hc)).trans hc))).trans ((oM.cell (cell_lt hc)).trans hc);obtain ⟨wc',hwc'⟩:=zB wc;rw [<-hwc'] at M1 cE hbc;rw [<-hwc'];clear hwc' S0 qV aW qW hAt DN qi ba hbd0 kd qE;by_cases hyes:z=false/\Y.2 ≠ 0;rotate_left
        ·have HN:=zC (A.QY (ok:=FE) (own:=[]) (L:=A.upto x.m n ++ (l.take j).map Sh.l) (v:=t.l) (by
          cases z with
          | true=>exact .inl (by rw [<-hcI.out];exact HZ.out)
          | false=>exact .inr (by rw [vJ.out];simp only [beq_iff_eq];exact Classical.byContradiction λe=>hyes ⟨rfl,e⟩)))
         have HC2:=zC (show own'.map Sh.l=A.dS FE [] (A.upto x.m n ++ (l.take (j + 1)).map Sh.l) by rw [h_.out,<-List.append_assoc,HN.out];exact hcI.out);have hl2:own'.length<=own.length + (j + 1):=by omega
         go_upto_region 29 with fail;go_cut [103] from 98 to 103 (λaj3 wz=>aj3=.bool false/\wz=wc')
         case first =>
          cases z
          ·have hy0:Y.2=0:=Classical.byContradiction λe=>hyes ⟨rfl,e⟩;have e1:(Y.2 != 0)=false:=by simp [hy0]
           clear hy0 hyes;go_wp2_with fail;go_meet;exact ⟨rfl,rfl⟩
          ·clear hyes;go_wp2_with fail;go_meet;exact ⟨rfl,rfl⟩
         case rest =>
         obtain ⟨rfl,hwz⟩:=hcut;rw [hwz];clear hwz hyes;go_wp2_with fail;go_roundw
         case rel=>(go_light;exact ⟨j + 1,own',by go_num,hjm,by first | exact M1 | (rw [<-zY.out];exact M1),mF,rE,hl2,HC2.out⟩)
         case measure=>(go_light;simp [intOf];omega)
        obtain ⟨hz0,hy0⟩:=hyes;subst hz0;have e1:(Y.2 != 0)=true:=by simp [bne,hy0]
        have HN:=zC (A.Z_ (ok:=FE) (own:=[]) (L:=A.upto x.m n ++ (l.take j).map Sh.l) (v:=t.l) (by rw [<-hcI.out];exact HZ.out) (by rw [vJ.out];simpa using hy0));have HC2:=zC (show (own' ++ [t]).map Sh.l=A.dS FE [] (A.upto x.m n ++ (l.take (j + 1)).map Sh.l) by rw [h_.out,<-List.append_assoc,HN.out,List.map_append,hcI.out];rfl);have hl2:(own' ++ [t]).length<=own.length + (j + 1):=by rw [List.length_append,List.length_singleton];omega
        obtain ⟨w6,hw6⟩:=zB (wc'.alloc (.cells #[.slice t.A t.n t.c] 48));obtain ⟨g6,jq⟩:=zB wc'.heap.size;have b6:Below wc'.heap.size wc' w6:=by rw [hw6];exact ry _ _
        have hL6:w6.heap[g6]? = some (.cells #[.slice t.A t.n t.c] 48 (0,0)):=by rw [hw6,jq];exact heap_alloc_new _ _
        have M3:=M1.below b6;have Jd:BS<=w6.heap.size:=by rw [kP.out];exact M3.bw.size
        have Bh:own'.length<=1000000:=by omega
        clear M1 hy0;go_wp2_with (first
         | (at_builtin;rw [<-hw6,<-jq];refine M_ rfl _ _ rfl BS (.slice E2 own'.length c2) own'.length own' rfl M3.row g6 t rfl hL6 Bh Jd ?_;intro v' w7 fF uD uA)
         | fail)
        have M4:=M3.app xR.out uD uA fF kP.out;go_roundw
        case rel=>(go_light;exact ⟨j + 1,own' ++ [t],by go_num,hjm,by first | exact M4 | (rw [<-zY.out];exact M4),mF.snoc (PT t xR.out),λy hy=>(List.mem_append.1 hy).elim (rE y) (λhy=>by rw [List.mem_singleton] at hy;rw [hy];exact ⟨h6,NU⟩),hl2,HC2.out⟩)
        case measure=>(go_light;simp [intOf];omega)
      ·have jd:decide ((j:Int) < (m:Int))=false:=zI (by omega);have zo:decide (j < m)=false:=zI hjm;have Ei:l.take j=l:=List.take_of_length_le (by have:=oh.out;omega);have HE:=zC (show own'.map Sh.l=A.dS FE [] (A.upto x.m (n + 1)) by rw [hcI.out,Ei,CV.out,HD.out,zZ.out,A.upto_succ]);have hl2:own'.length<=64 * (n + 1):=by omega
       have hnn:n + 1<=x.m:=hnm;have Gw:=zC (show ((N1:Int) + 1)=((n + 1 + 1:Nat):Int) by rw [zZ.out];push_cast;rfl);have akn:N1<=100:=by have:=zZ.out;omega
       clear Ei;go_wp2_with fail;go_roundw
       case rel=>(go_light;exact ⟨n + 1,own',by rw [<-Gw.out],hnn,M.row,M.ok,mF,rE,hl2,HE.out,M.bw⟩)
       case measure=>(go_light;simp [intOf];have:=zZ.out;omega)
    ·have k0:decide ((N1:Int)<=(x.m:Int))=false:=zI (by omega);have k0':decide (N1<=x.m)=false:=zI (by omega);clear IG;have Yc:n=x.m:=by omega
     have HOWN:=zC (show own.map Sh.l=A.own FE x.m by rw [Bc.out,Yc];rfl);obtain ⟨E,c,rfl,DY,hnc,ji⟩:=BN hownO rfl nH;have F0:vF w2 wk u12 B1 bl E own.length own:=⟨own_below hown qp,rV.below qp,bel hbr qp,DY,λh0 ad e e2=>(by have h1:=(bG hown _ e2).2;have h2:=ji ad e;have:=kP.out;omega),λt ht=>⟨(nH t ht).1,λh0 ad e e2=>(by have h1:=(bG hown _ e2).2;have h2:=uH t ht h0 ad e;have:=kP.out;omega)⟩⟩;have hol:own.length<=384:=by omega
     have hBB:B1<=BS:=by rw [kP.out,HB1.out];exact hbr.size
     clear Yc hownO nH DY ji;go_wp2_with fail;clear k0 k0';go_loopw [12,22] (λv12 v22 wf=>∃ (j:Nat) (iy:List BV),v22=.int .i64 j/\j<=own.length/\vF w2 wf v12 B1 iy E own.length own/\MQ B1 iy/\Hid (iy.length=bl.length + j)/\Hid (iy.map BV.pr=bl.map BV.pr ++ (own.take j).map λt=>((s:Int),t.l,K.aS x.nd x.l sS x.r t.l))) (λ_ v22 _=>own.length - (intOf v22).toNat)
     case atStart=>exact ⟨0,bl,rfl,Nat.zero_le _,F0,hnb,rfl,by show _=_;rw [List.take_zero,List.map_nil,List.append_nil]⟩
     case round =>
      clear F0;obtain ⟨j,iy,rfl,hj,F,Yb,hlb,hcb⟩:=hrel;obtain ⟨wf,hwf⟩:=zB wr;rw [<-hwf] at F;rw [<-hwf];clear hwf;by_cases hjn:j < own.length
      ·obtain ⟨kT,t,hEA,hg,⟨hI,hsc,hs0⟩,hc⟩:=F.sh.at_ hjn;have j0:(0:Int)<=(j:Int):=by omega
       have j1:(j:Int) < (own.length:Int):=by omega
       have jd:decide ((j:Int) < (own.length:Int))=true:=zH j1;have zo:decide (j < own.length)=true:=zH hjn;have hAt:At wf (x.one sS):=(hx2.below F.bw).case mW.out;have jb:=zC (show ∀ w',Below wf.heap.size wf w'->(λw':World=>w'.cell? ⟨G0,0,none⟩=some (.int .i64 x.nd)/\w'.cell? ⟨G0,1,none⟩=some (.slice x.A x.n x.c)/\w'.cell? (au.add (s * 6))=some (.int .i64 sS.day)/\w'.cell? ⟨(au.add (s * 6)).block,(au.add (s * 6)).off + 1,none⟩=some (.int .i64 sS.ag)/\w'.cell? ⟨(au.add (s * 6)).block,(au.add (s * 6)).off + 2,none⟩=some (.int .i64 sS.start)/\w'.cell? ⟨(au.add (s * 6)).block,(au.add (s * 6)).off + 3,none⟩=some (.int .i64 sS.end_)/\w'.cell? ⟨(au.add (s * 6)).block,(au.add (s * 6)).off + 4,none⟩=some (.int .i64 sS.aj)/\w'.cell? ⟨(au.add (s * 6)).block,(au.add (s * 6)).off + 5,none⟩=some (.slice sS.A sS.n sS.c)/\w'.cell? (kT.add j)=some (.slice t.A t.n t.c)) w' from λw' h=>by
        obtain ⟨a0,a1,a2,a3,a4,a5,a6,a7⟩:=bC.out w' (bel F.bw h);exact ⟨a0,a1,a2,a3,a4,a5,a6,a7,(h.cell (cell_lt hc)).trans hc⟩)
       have hW0:Below wf.heap.size wf wf:=Below.refl _ _;have jo:Below wf.heap.size wf wf.drew:=hW0.drew;have S0:=jb.out _ hW0;have aW:=jb.out _ jo;have kC:=zD hg;obtain ⟨h6,NU⟩:=Au t kC;have h_:=zC (show (own.take (j + 1)).map (λt=>((s:Int),t.l,K.aS x.nd x.l sS x.r t.l))=(own.take j).map (λt=>((s:Int),t.l,K.aS x.nd x.l sS x.r t.l)) ++ [((s:Int),t.l,K.aS x.nd x.l sS x.r t.l)] by rw [List.take_add_one,hg,List.map_append];rfl);have PX:je t.A t.n u12:=λh0 ad e=>(F.lk t kC).2 h0 ad e;have afo:∀ g,Ft t.A t.n g->B1<=g:=λg e=>by
        obtain ⟨h0,ad,e1,rfl⟩:=e;have:=uH t kC h0 ad e1;omega
       have zY:=zC hEA;have NV:t.n<=1000000000:=by omega
       have hvl:t.l.length<=6:=by omega
       have hln:iy.length<=1000000:=by have:=hlb.out;omega
       have afS:=F.bw.size;have DR:B1<=wf.heap.size:=by rw [HB1.out];exact afS
       have NE:u12.ownBlock ≠ some (kT.add j).block:=λe=>by
        rw [add_block] at e;exact F.off (by omega) kT hEA e
       have acn:=zC (show ∀ w',Below w2.heap.size w2 w'->w'.cell? (kT.add j)=some (.slice t.A t.n t.c)->(λw':World=>w'.cell? ⟨G0,0,none⟩=some (.int .i64 x.nd)/\w'.cell? ⟨G0,1,none⟩=some (.slice x.A x.n x.c)/\w'.cell? (au.add (s * 6))=some (.int .i64 sS.day)/\w'.cell? ⟨(au.add (s * 6)).block,(au.add (s * 6)).off + 1,none⟩=some (.int .i64 sS.ag)/\w'.cell? ⟨(au.add (s * 6)).block,(au.add (s * 6)).off + 2,none⟩=some (.int .i64 sS.start)/\w'.cell? ⟨(au.add (s * 6)).block,(au.add (s * 6)).off + 3,none⟩=some (.int .i64 sS.end_)/\w'.cell? ⟨(au.add (s * 6)).block,(au.add (s * 6)).off + 4,none⟩=some (.int .i64 sS.aj)/\w'.cell? ⟨(au.add (s * 6)).block,(au.add (s * 6)).off + 5,none⟩=some (.slice sS.A sS.n sS.c)/\w'.cell? (kT.add j)=some (.slice t.A t.n t.c)) w' from λw' h hc'=>by
        obtain ⟨a0,a1,a2,a3,a4,a5,a6,a7⟩:=bC.out w' h;exact ⟨a0,a1,a2,a3,a4,a5,a6,a7,hc'⟩)
       rw [hEA,pK.out];clear hg hEA kC;go_upto_region 34 with fail;clear jd zo
       go_region_held3 (λw':World=>w'.cell? ⟨G0,0,none⟩=some (.int .i64 x.nd)/\w'.cell? ⟨G0,1,none⟩=some (.slice x.A x.n x.c)/\w'.cell? (au.add (s * 6))=some (.int .i64 sS.day)/\w'.cell? ⟨(au.add (s * 6)).block,(au.add (s * 6)).off + 1,none⟩=some (.int .i64 sS.ag)/\w'.cell? ⟨(au.add (s * 6)).block,(au.add (s * 6)).off + 2,none⟩=some (.int .i64 sS.start)/\w'.cell? ⟨(au.add (s * 6)).block,(au.add (s * 6)).off + 3,none⟩=some (.int .i64 sS.end_)/\w'.cell? ⟨(au.add (s * 6)).block,(au.add (s * 6)).off + 4,none⟩=some (.int .i64 sS.aj)/\w'.cell? ⟨(au.add (s * 6)).block,(au.add (s * 6)).off + 5,none⟩=some (.slice sS.A sS.n sS.c)/\w'.cell? (kT.add j)=some (.slice t.A t.n t.c))
        (first | with_reducible exact xY | with_reducible exact Af | with_reducible exact S9 | with_reducible exact aW | with_reducible exact S0 | fail)
        (first
         | (go_at_call 82;refine (Za (x.one sS) t.A t.n t.c t.l _ (hAt.below jo) (hI.below jo) NV).mono ?_;rintro e w9 ⟨⟨LA,ln,lc,rfl,yD,yG⟩,b9⟩;have F9:=F.below (bel jo b9);have kF:B1<=w9.heap.size:=Nat.le_trans DR (bel jo b9).size;have a9:Below w9.heap.size w9 (w9.alloc (.cells #[.int .i64 (s:Int),.slice t.A t.n t.c,.slice LA ln lc] 90)):=(Below.refl _ _).alloc (zG _) _;have Nh:=bel jo b9;have S9:=jb.out _ Nh;have wE:=bel Nh a9;have Af:=jb.out _ wE;have Jl:je LA ln u12:=λh0 ad e e2=>(by have h1:=(bG F.row _ e2).2;have h2:=yG ad e;have h3:=jo.size;omega);have hll:ln<=384:=(by have h1:=yD.1;have h2:(K.aS x.nd x.l sS x.r t.l).length<=384:=K.Zd hvl;have h3:ln=(K.aS x.nd x.l sS x.r t.l).length:=h1;omega))
         | (refine abO rfl (.tmp 117) (.tmp 135) rfl F9.row kF rfl w9.heap.size ⟨s,t.A,t.n,t.c,t.l,LA,ln,lc,K.aS x.nd x.l sS x.r t.l⟩ rfl a9 (heap_alloc_new w9 _) hln ?_;intro v' w10 yZ nG uz;have F10:=(F9.below a9).app HB1.out ⟨⟨(hI.below (bel jo b9)).below a9,aQ.below yD a9⟩,PX,Jl,hsc,h6,hll⟩ nG uz yZ;have xY:=acn.out w10 F10.bw (Nw Af.2.2.2.2.2.2.2.2 nG NE))
         | fail)
       have hnl:∀ g,Ft LA ln g->B1<=g:=λg e=>by
        obtain ⟨h0,ad,e1,rfl⟩:=e;have h1:=yG ad e1;have h2:wf.drew.heap.size=wf.heap.size:=rfl;omega
       have afk:MQ B1 (iy ++ [⟨s,t.A,t.n,t.c,t.l,LA,ln,lc,K.aS x.nd x.l sS x.r t.l⟩]):=λy hy g e=>by
        rcases List.mem_append.1 hy with hy | hy
        ·exact Yb y hy g e
        ·rw [List.mem_singleton.1 hy] at e;exact e.elim (afo g) (hnl g)
       have aK:=zC (show (iy ++ [(⟨s,t.A,t.n,t.c,t.l,LA,ln,lc,K.aS x.nd x.l sS x.r t.l⟩:BV)]).length=bl.length + (j + 1) by rw [List.length_append,hlb.out];rfl);have pG:=zC (show (iy ++ [(⟨s,t.A,t.n,t.c,t.l,LA,ln,lc,K.aS x.nd x.l sS x.r t.l⟩:BV)]).map BV.pr=bl.map BV.pr ++ (own.take (j + 1)).map λt=>((s:Int),t.l,K.aS x.nd x.l sS x.r t.l) by rw [h_.out,<-List.append_assoc,<-hcb.out,List.map_append];rfl);clear F F9 S0 aW S9 Af xY yD yG a9 b9 yZ nG uz jo hAt hc hI Nh wE kF Jl hll hW0;go_wp2_with fail;go_roundw
       case rel=>(go_light;exact ⟨j + 1,iy ++ [(⟨s,t.A,t.n,t.c,t.l,LA,ln,lc,K.aS x.nd x.l sS x.r t.l⟩:BV)],by go_num,hjn,by first | exact F10 | (rw [<-zY.out];exact F10),afk,aK.out,pG.out⟩)
       case measure=>(go_light;simp [intOf];omega)
      ·have jd:decide ((j:Int) < (own.length:Int))=false:=zI (by omega);have zo:decide (j < own.length)=false:=zI hjn;have Ej:own.take j=own:=List.take_of_length_le (by omega);have aV:=zC (show iy.map BV.pr=K.t_ x.nd x.l x.ss x.r (s + 1) by
        rw [K.U8,<-hcl.out,hcb.out,Ej,<-aO.out,<-xI.out,<-HOWN.out,List.map_map];congr 1;refine List.map_congr_left λt _=>?_;show _=((s:Int),t.l,_);rw [dW.out])
       have hl2:iy.length<=1000 * (s + 1):=by have:=hlb.out;omega
       clear Ej;go_wp2_with fail;go_roundw
       case rel=>(go_light;exact ⟨s + 1,iy,by go_num,hlt,F.row,F.ok,Yb,hl2,aV.out,F.bw⟩)
       case measure=>(go_light;simp [intOf];omega)
theorem aiU (x:C) (y:TV) (w:World) (hx:At w x) (hy:x9 w y) (hn:y.n<=100000) (BC:y.n<=y.c) :
  Calls Tryz.prog 87 #[.agg #[.int .i64 x.nd,.slice x.A x.n x.c],.agg #[.int .i64 x.s.day,.int .i64 x.s.ag,.int .i64 x.s.start,.int .i64 x.s.end_,.int .i64 x.s.aj,.slice x.s.A x.s.n x.s.c],.slice x.B x.m x.d,.agg #[.int .i64 y.sh,.slice y.A y.n y.c,.slice y.A' y.n' y.c',.int .i64 y.t.end_]] w λe w'=>e=.returned (.bool (K.check x.nd x.l x.s x.r y.t))/\Below w.heap.size w w':=by
 obtain ⟨w1,hw1⟩:=zB (w.alloc (.cells #[.int .i64 x.nd,.slice x.A x.n x.c] 24));obtain ⟨w2,hw2⟩:=zB (w1.alloc (.cells #[.int .i64 x.s.day,.int .i64 x.s.ag,.int .i64 x.s.start,.int .i64 x.s.end_,.int .i64 x.s.aj,.slice x.s.A x.s.n x.s.c] 63));obtain ⟨w3,hw3⟩:=zB (w2.alloc (.cells #[.int .i64 y.sh,.slice y.A y.n y.c,.slice y.A' y.n' y.c',.int .i64 y.t.end_] 80));have z1:w1.heap.size=w.heap.size + 1:=by rw [hw1];exact World.size_alloc _ _
 have z2:w2.heap.size=w.heap.size + 1 + 1:=by rw [hw2,World.size_alloc,z1]
 have b01:=zA hw1;have b12:=zA hw2;have bH:=zA hw3;have hP:Net w3 w.heap.size x.nd x.A x.n x.c:=by
  have h1:Net w1 w.heap.size x.nd x.A x.n x.c:=by rw [hw1];exact Net.new _ _ _ _ _
  exact (h1.below b12).below bH
 have hS:aT w3 (w.heap.size + 1) x.s:=by
  have h1:aT w2 (w.heap.size + 1) x.s:=by rw [<-z1,hw2];exact aT.new _ _
  exact h1.below bH
 have hT:gm w3 (w.heap.size + 1 + 1) y.sh (.slice y.A y.n y.c) (.slice y.A' y.n' y.c') y.t.end_:=by rw [<-z2,hw3];exact heap_alloc_new _ _
 have b3:=bel (bel b01 b12) bH;have p0:=hP.c0;have p1:=hP.c1;obtain ⟨s0,s1,s2,s3,s4,s5⟩:=hS.cells;obtain ⟨t0,t1,t2,t3⟩:=hT.cells;rw [hw3,hw2,hw1] at p0 p1 s0 s1 s2 s3 s4 s5 t0 t1 t2 t3;go_enter Tryz.func87,Tryz.ntmps87;go_wp2_with fail;rw [<-hw1,<-hw2,<-hw3];clear hw1 hw2 hw3 z1 z2 b01 b12 bH p0 p1 s0 s1 s2 s3 s4 s5 t0 t1 t2 t3;refine (abt x y.A y.n y.c y.t.stops _ (hx.below b3) (hy.below b3).stops BC hn).mono ?_;rintro e w4 ⟨⟨A1,n1,c1,A2,n2,c2,rfl,hI1,hI2,-⟩,eF⟩;have hlen:=K.abx x.nd x.l x.s x.r y.t.stops;obtain ⟨R,hR⟩:=zB (K.run x.nd x.l x.s x.r y.t.stops);rw [<-hR] at hI1 hI2 hlen ⊢;have HR:=zC (show K.check x.nd x.l x.s x.r y.t=((R.e == 0) && (decide (R.aI.times=y.t.times) && (R.aI.end_ == y.t.end_))) by rw [hR];rfl);have hn1:n1<=1000000000:=by rw [hI1.1];have:=hlen.1;have:=hy.stops.1;omega
 have hn2:n2<=1000000000:=by rw [hI2.1];have:=hlen.2;have:=hy.stops.1;omega
 have HRR:=zC hR;clear hR hlen;have hT:=hT.below eF;have hb:=bel b3 eF;have ba:Below w4.heap.size w4 (w4.alloc (.cells #[.int .i64 0,.slice A1 n1 c1,.slice A2 n2 c2,.int .i64 R.aI.end_] 80)):=(Below.refl _ _).alloc (zG _) _;have hT2:gm (w4.alloc (.cells #[.int .i64 0,.slice A1 n1 c1,.slice A2 n2 c2,.int .i64 R.aI.end_] 80)) w4.heap.size 0 (.slice A1 n1 c1) (.slice A2 n2 c2) R.aI.end_:=heap_alloc_new _ _;have hT1:=hT.below ba;obtain ⟨w5,hw5⟩:=zB (w4.alloc (.cells #[.int .i64 0,.slice A1 n1 c1,.slice A2 n2 c2,.int .i64 R.aI.end_] 80));obtain ⟨q0,q1,q2,q3⟩:=hT1.cells;obtain ⟨r0,r1,r2,r3⟩:=hT2.cells;cases k0:(R.e == 0)
 ·have HX:=zC (show K.check x.nd x.l x.s x.r y.t=false by rw [HR.out,k0];rfl);clear hw5;go_wp2_with fail;go_ret;exact ⟨ay HX.out.symm,bel hb ba⟩
 have HX:=zC (show K.check x.nd x.l x.s x.r y.t=K.same R.aI y.t by
  have hst:R.aI.stops=y.t.stops:=by
   have h0:(K.run x.nd x.l x.s x.r y.t.stops).e=0:=by rw [<-HRR.out];simpa using k0
   rw [HRR.out,(K.uZ h0).2.2.2]
  rw [HR.out,k0];simp [K.same,hst])
 rw [<-hw5] at ba hT1 hT2;have hb5:=bel hb ba;have p_:=hI1.below ba;have Oh:=hI2.below ba;go_wp2_with fail;rw [<-hw5];clear hw5 q0 q1 q2 q3 r0 r1 r2 r3 k0 HR;refine (ai5 ⟨0,A1,n1,c1,A2,n2,c2,R.aI⟩ y _ ⟨p_,Oh,hn1,hn2⟩ (hy.below hb5)).mono ?_;rintro e w6 ⟨rfl,aX⟩;have hb6:=bel hb5 aX;go_wp2_with fail;go_ret;exact ⟨ay HX.out.symm,hb6⟩
end Go.Proofs.YtippdjmpkafifaaGreat
