import Derived.Test.YtippdjmpkafifaaGreatCT16
import Derived.Deep.Light
import Derived.Test.YtippdjmpkafifaaGreatCT6
import Derived.Test.YtippdjmpkafifaaGreatCT7
set_option maxRecDepth 100000
set_option maxHeartbeats 64000000
namespace Go.Proofs.YtippdjmpkafifaaGreat
open Go.RowKit
theorem Si {nd:Int} {l:List Ro} {a k:Int} {tg:Nat} {w:World} {A:Option Addr} {n:Nat} (hI:Ints w A n (K.times nd l a k)) (hne:K.aG nd l=0) (ha:0<=a/\a < nd) (htg:(tg:Int) < nd) :
  ∃ ad,A=some ad/\w.cell? (ad.add tg)=some (.int .i64 (K.way nd l a k (tg:Int)))/\(tg:Int) < (n:Int):=by
 have hn:n=nd.toNat:=by rw [hI.1];exact K.KN hne ha
 have hdt:tg < n:=by omega
 obtain ⟨ad,y,rfl,hy,cy⟩:=hI.at_ hdt;refine ⟨ad,rfl,?_,by omega⟩;rw [cy];unfold K.way G.at_;rw [Int.toNat_natCast,hy];rfl
theorem acQ (x:C) (V:Option Addr) (vn vc:Nat) (v:List Int) (A:Option Addr) (tn tc:Nat) (ts:List Int) (m tg:Nat) (w:World) (hok:K.aP x.nd x.l x.s x.r v=true) (hx:At w x) (hV:Ints w V vn v) (hT:Ints w A tn ts)
  (hts:∀ i,i < vn->∃ y,ts[m * 6 + i]? = some y/\(m.testBit i=true->y=K.lab x.nd x.l x.s x.r v m i)) (hm:m < 64) (hto:(tg:Int) < x.nd) :
  Calls Tryz.prog 184 #[.agg #[.int .i64 x.nd,.slice x.A x.n x.c],.agg #[.int .i64 x.s.day,.int .i64 x.s.ag,.int .i64 x.s.start,.int .i64 x.s.end_,.int .i64 x.s.aj,.slice x.s.A x.s.n x.s.c],.slice x.B x.m x.d,.slice V vn vc,.slice A tn tc,.int .i64 m,.int .i64 tg] w λe w'=>e=.returned (.int .i64 (K.nK x.nd x.l x.s x.r v m tg))/\Below w.heap.size w w':=by
 obtain ⟨w1,hw1⟩:=zB (w.alloc (.cells #[.int .i64 x.nd,.slice x.A x.n x.c] 24));obtain ⟨w2,hw2⟩:=zB (w1.alloc (.cells #[.int .i64 x.s.day,.int .i64 x.s.ag,.int .i64 x.s.start,.int .i64 x.s.end_,.int .i64 x.s.aj,.slice x.s.A x.s.n x.s.c] 63));have z1:w1.heap.size=w.heap.size + 1:=by rw [hw1];exact World.size_alloc _ _
 have b01:=zA hw1;have b12:=zA hw2;have hP:Net w2 w.heap.size x.nd x.A x.n x.c:=by
  have h1:Net w1 w.heap.size x.nd x.A x.n x.c:=by rw [hw1];exact Net.new _ _ _ _ _
  exact h1.below b12
 have hS:aT w2 (w.heap.size + 1) x.s:=by rw [<-z1,hw2];exact aT.new _ _
 have hb:=bel b01 b12;have aJ:=zC hok;have HC:=zC (K.oC hok);have kR:=zC hV.1;have hv6:vn<=6:=by rw [hV.1];exact (K.fU hok).2.2.2.2.1
 obtain ⟨hne,hck,hdp,-,-,-⟩:=K.fU hok;obtain ⟨-,⟨d0,-⟩,st0,st1,pX⟩:=K.pW hck;have kQ:=zC hne;have iT:=zC hts;clear hne hck hok hts;go_enter Tryz.func184,Tryz.ntmps184;go_wp2_with fail;rw [<-hw1,<-hw2];clear hw1 hw2 z1 b01 b12;have hmk:∀ w',Below w2.heap.size w2 w'->(λw':World=>Below w2.heap.size w2 w'/\w'.cell? ⟨w.heap.size + 1,0,none⟩=some (.int .i64 x.s.day)/\w'.cell? ⟨w.heap.size + 1,1,none⟩=some (.int .i64 x.s.ag)/\w'.cell? ⟨w.heap.size + 1,2,none⟩=some (.int .i64 x.s.start)/\w'.cell? ⟨w.heap.size + 1,3,none⟩=some (.int .i64 x.s.end_)/\w'.cell? ⟨w.heap.size + 1,4,none⟩=some (.int .i64 x.s.aj)/\w'.cell? ⟨w.heap.size + 1,5,none⟩=some (.slice x.s.A x.s.n x.s.c)) w':=λw' h=>⟨h,(hS.below h).cells⟩;have S0:=hmk _ (Below.refl _ _);have hSd:∀ w',(λw':World=>Below w2.heap.size w2 w'/\w'.cell? ⟨w.heap.size + 1,0,none⟩=some (.int .i64 x.s.day)/\w'.cell? ⟨w.heap.size + 1,1,none⟩=some (.int .i64 x.s.ag)/\w'.cell? ⟨w.heap.size + 1,2,none⟩=some (.int .i64 x.s.start)/\w'.cell? ⟨w.heap.size + 1,3,none⟩=some (.int .i64 x.s.end_)/\w'.cell? ⟨w.heap.size + 1,4,none⟩=some (.int .i64 x.s.aj)/\w'.cell? ⟨w.heap.size + 1,5,none⟩=some (.slice x.s.A x.s.n x.s.c)) w'->(λw':World=>Below w2.heap.size w2 w'/\w'.cell? ⟨w.heap.size + 1,0,none⟩=some (.int .i64 x.s.day)/\w'.cell? ⟨w.heap.size + 1,1,none⟩=some (.int .i64 x.s.ag)/\w'.cell? ⟨w.heap.size + 1,2,none⟩=some (.int .i64 x.s.start)/\w'.cell? ⟨w.heap.size + 1,3,none⟩=some (.int .i64 x.s.end_)/\w'.cell? ⟨w.heap.size + 1,4,none⟩=some (.int .i64 x.s.aj)/\w'.cell? ⟨w.heap.size + 1,5,none⟩=some (.slice x.s.A x.s.n x.s.c)) w'.drew:=λw' h=>hmk _ h.1.drew;have kG:∀ w',Below w2.heap.size w2 w'->Ints w' V vn v:=λw' h=>(hV.below hb).below h;have hAr:∀ w',Below w2.heap.size w2 w'->Ints w' x.s.A x.s.n x.s.l:=λw' h=>((hx.below hb).below h).g_;have DL:∀ w',Below w2.heap.size w2 w'->bW w' x.B x.m x.r:=λw' h=>((hx.below hb).below h).aN;have Yr:m < 256:=by omega
 have Js:vn<=8:=by omega
 have hpl:(K.part v m).length<=1000000000:=by have h1:=K.nN v m;rw [<-kR.out] at h1;omega
 go_region_held3 (λw':World=>Below w2.heap.size w2 w'/\w'.cell? ⟨w.heap.size + 1,0,none⟩=some (.int .i64 x.s.day)/\w'.cell? ⟨w.heap.size + 1,1,none⟩=some (.int .i64 x.s.ag)/\w'.cell? ⟨w.heap.size + 1,2,none⟩=some (.int .i64 x.s.start)/\w'.cell? ⟨w.heap.size + 1,3,none⟩=some (.int .i64 x.s.end_)/\w'.cell? ⟨w.heap.size + 1,4,none⟩=some (.int .i64 x.s.aj)/\w'.cell? ⟨w.heap.size + 1,5,none⟩=some (.slice x.s.A x.s.n x.s.c))
  (first | assumption | exact S0 | exact hSd _ (by assumption))
  (first
   | (go_at_call 183;refine (aaf V vn vc v m _ (kG _ (And.left (by assumption))) Js Yr).mono ?_;rintro e wb ⟨⟨RA,rn,rc,rfl,hR⟩,bb⟩;have S1:=hmk _ (bel (And.left (by assumption)) bb);have hrn:rn<=1000000000:=by (rw [hR.1];exact hpl))
   | (go_at_call 146;refine (Ky x.s x.B x.m x.d x.r RA rn rc (K.part v m) _ (hAr _ S1.1) hx.b2 (DL _ S1.1) hx.b3 hx.b4 hR hrn).mono ?_;rintro e wc ⟨rfl,bc⟩;have S2:=hmk _ (bel S1.1 bc))
   | fail)
 obtain ⟨wt,hwt⟩:=zB (T.weight x.s x.r (K.part v m));rw [<-hwt];have vS:=zC hwt;have Ho:=S2.1;have hP:=hP.below Ho;have hS:=hS.below Ho;have hb:=bel hb Ho;clear S0 S1 S2 hSd hmk kG hAr DL hR hrn hpl hwt bb bc Ho Yr Js;have p0:=hP.c0;have p1:=hP.c1;obtain ⟨s0,s1,s2,s3,s4,s5⟩:=hS.cells;have k3:(0:Int)<=(tg:Int):=by omega
 by_cases hm0:m=0
 ·subst hm0;have hF:=K.agK (nd:=x.nd) (l:=x.l) (s:=x.s) (r:=x.r) (v:=v) (tg:Int);rw [<-vS.out] at hF;go_wp2_with fail;refine (Kw x.nd x.A x.n x.c x.l x.s.ag wt _ (hx.below hb).net hx.b1).mono ?_;rintro e wy ⟨⟨TA,yn,yc,rfl,yN⟩,wH⟩;obtain ⟨y,Bz⟩:=zB (K.way x.nd x.l x.s.ag wt (tg:Int));obtain ⟨Hg,rfl,cy,j4⟩:=Si yN kQ.out ⟨d0,hdp⟩ hto;have hyb:=K.iJ x.nd x.l x.s.ag wt (tg:Int);rw [<-Bz] at hyb hF cy;have s2:=((hS.below wH).cells).2.2.1;clear Bz yN p0 p1 s0 s1 s3 s4 s5;have hsm:IntKind.i64.wrap (x.s.start + y)=x.s.start + y:=IntWalk.i64_in _ (by omega);have akO:wrap64 (x.s.start + y)=x.s.start + y:=by rw [<-IntWalk.i64_left];exact hsm
  by_cases hy0:y < 0
  ·have c1:decide (y < 0)=true:=zH hy0;rw [if_pos hy0] at hF;have HF:=zC hF;clear hF;go_wp2_with fail;go_ret;exact ⟨by rw [HF.out];rfl,bel hb wH⟩
  ·have c1:decide (y < 0)=false:=zI hy0;rw [if_neg hy0,if_neg (by omega)] at hF;have HF:=zC hF;clear hF;go_wp2_with fail;go_ret;exact ⟨by rw [HF.out];rfl,bel hb wH⟩
 ·have akC:((m:Int) == 0)=false:=by simp;exact hm0
  have akD:(m == 0)=false:=by simp;exact hm0
  go_wp2_with fail;have HP:=zC hP;have HS:=zC hS;have HB:=zC hb;clear hb hP hS p0 p1 s0 s1 s2 s3 s4 s5;go_loopw [17,18] (λv17 v18 wr=>∃ (i:Nat) (f:Int),v17=.int .i64 f/\v18=.int .i64 i/\i<=vn/\Hid (f=K.gy x.nd x.l x.s x.r v m (tg:Int) i)/\Below wc.heap.size wc wr) (λ_ v18 _=>vn - (intOf v18).toNat)
  case atStart=>exact ⟨0,-1,rfl,rfl,by omega,rfl,Below.refl _ _⟩
  case round =>
   obtain ⟨i,f,rfl,rfl,hi,hf,hbr⟩:=hrel;have hb:=bel HB.out hbr;have hfb:=K.JF HC.out m (tg:Int) i;rw [<-hf.out] at hfb;by_cases hlt:i < vn
   ·obtain ⟨z,hz,hzi⟩:=iT.out i hlt;have HZI:=zC hzi;clear hzi;obtain ⟨m6,j_⟩:=zB (m * 6);obtain ⟨j,hj⟩:=zB (m6 + i);rw [<-j_,<-hj] at hz;have hmt:j < tn:=by rw [hT.1];exact (zE.1 hz).1
    obtain ⟨adt,z2,rfl,hz2,cz⟩:=(hT.below hb).at_ hmt;rw [hz] at hz2;injection hz2 with hz2;subst hz2;have Qx:IntKind.i64.wrap ((m:Int) * 6)=(m6:Int):=by rw [IntWalk.i64_in _ (by omega)];omega
    have Qy:IntKind.i64.wrap ((m6:Int) + (i:Int))=(j:Int):=by rw [IntWalk.i64_in _ (by omega)];omega
    have EO:(0:Int)<=(j:Int):=by omega
    have BI:(j:Int) < (tn:Int):=by omega
    have Qv:(0:Int)<=(i:Int):=by omega
    have Qw:(i:Int) < (vn:Int):=by omega
    have Jg:i < 8:=by omega
    have Eo:m < 256:=by omega
    have hlt':decide (i < vn)=true:=zH hlt;have qy:decide ((i:Int) < (vn:Int))=true:=zH Qw;clear hz j_ hj hmt;go_upto_region 12 with fail;clear Qx Qy EO BI cz;cases hbit:m.testBit i
    ·have hb1:bits BinOp.and IntKind.i64 ((m:Int) / 2 ^ i) 1=0:=by rw [lI Eo Jg,hbit];rfl
     have HF:=zC (show f=K.gy x.nd x.l x.s x.r v m (tg:Int) (i + 1) by rw [K.Zz (K.Y_ hbit)];exact hf.out);clear hf;go_wp2_with fail;clear hb1;go_roundw
     case rel=>(go_light;exact ⟨i + 1,f,rfl,by go_num,hlt,HF.out,hbr⟩)
     case measure=>(go_light;simp [intOf] <;> omega)
    ·have hb1:bits BinOp.and IntKind.i64 ((m:Int) / 2 ^ i) 1=1:=by rw [lI Eo Jg,hbit];rfl
     have hzl:=HZI.out hbit;have hlb:=K.ET (nd:=x.nd) (l:=x.l) (s:=x.s) (r:=x.r) HC.out m i;rw [<-hzl] at hlb;have tH:=zC hzl;clear hzl;by_cases hz0:0<=z
     ·have c1:decide (0<=z)=true:=zH hz0;go_upto_region 13 with fail;clear hb1 hbit;obtain ⟨iM,k,rfl,hki,ci⟩:=(hV.below hb).at_ hlt;obtain ⟨hk0,hk1,hkn⟩:=K.FW _ _ (K.fU aJ.out).2.2.2.2.2 _ (zD hki);obtain ⟨j,rfl⟩:∃ j:Nat,k=(j:Int):=⟨k.toNat,by omega⟩;have hjm:j < x.m:=by rw [hx.aN.1];omega
      obtain ⟨wu,q,rZ,hgq,-,e0,-⟩:=((hx.below hb).aN).at_ hjm;have tu:=zC rZ;have Tn:=zC hki;have hrq:=K.jH hgq;rw [hrq] at hkn;have dB:=zC hrq;have dL:0<=q.node:=by
       have h1:=(K.fU aJ.out).2.2.2.1 q (zD hgq);exact (K.zO h1).1.1
      have hP:=HP.out.below hbr;have p0:=hP.c0;have p1:=hP.c1;have jO:∀ w',Below wr.heap.size wr w'->jf w' x.A x.n x.l:=λw' h=>aQ.below ((hx.below hb).net) h;obtain ⟨y,Bz⟩:=zB (K.way x.nd x.l q.node wt (tg:Int));have hyb:=K.iJ x.nd x.l q.node wt (tg:Int);rw [<-Bz] at hyb;have Gz:=zC Bz;have j1:(j:Int) < (x.m:Int):=by omega
      have j2:(0:Int)<=(j:Int):=by omega
      rw [rZ];clear hP hki hgq rZ hrq Bz hjm hk0 hk1;go_cut [20] from 65 to 78 (λv20 wx=>v20=.int .i64 y/\Below wc.heap.size wc wx)
      case first =>
       go_region_with (first | (go_at_call 147;refine (Kw x.nd x.A x.n x.c x.l q.node wt _ (jO _ (Below.refl _ _).drew) hx.b1).mono ?_;rintro e wy ⟨⟨TA,yn,yc,rfl,yN⟩,wH⟩;obtain ⟨Hg,rfl,cy,j4⟩:=Si yN kQ.out ⟨dL,hkn⟩ hto;rw [<-Gz.out] at cy) | fail)
       all_goals (clear p0 p1 e0 ci;go_wp2_with fail;go_meet)
       all_goals (exact ⟨rfl,bel hbr (bel (Below.refl _ _).drew wH)⟩)
      case rest =>
       obtain ⟨rfl,hbx⟩:=hcut;clear p0 p1 jO e0 ci j1 j2;have hb:=bel HB.out hbx;by_cases hy0:0<=y
       ·have c2:decide (0<=y)=true:=zH hy0;obtain ⟨sm,hsm⟩:=zB (z + y);have ksm:IntKind.i64.wrap (z + y)=sm:=by rw [IntWalk.i64_in _ (by omega)];exact hsm.symm
        obtain ⟨g,hg⟩:=zB (K.oZ f sm);have HF:=zC (show g=K.gy x.nd x.l x.s x.r v m (tg:Int) (i + 1) by
         rw [K.agL HC.out Tn.out (by rw [<-tH.out];exact hz0) (by rw [dB.out,<-vS.out,<-Gz.out];exact hy0),<-hf.out,<-tH.out,dB.out,<-vS.out,<-Gz.out,<-hsm];exact hg)
        clear hf hsm;go_wp2_with fail;refine (agD f sm _).mono ?_;rw [<-hg];rintro e w8 ⟨rfl,rfl⟩;clear ksm hg;go_wp2_with fail;rw [<-tu.out];go_roundw
        case rel=>(go_light;exact ⟨i + 1,g,rfl,by go_num,hlt,HF.out,hbx⟩)
        case measure=>(go_light;simp [intOf] <;> omega)
       ·have c2:decide (0<=y)=false:=zI hy0;have HF:=zC (show f=K.gy x.nd x.l x.s x.r v m (tg:Int) (i + 1) by
         rw [K.agM Tn.out (by rw [dB.out,<-vS.out,<-Gz.out];omega)];exact hf.out)
        clear hf;go_wp2_with fail;rw [<-tu.out];go_roundw
        case rel=>(go_light;exact ⟨_,_,⟨i + 1,f,rfl,by go_num,hlt,HF.out⟩,rfl,rfl,rfl,rfl⟩)
        case measure=>(go_light;simp [intOf] <;> omega)
     ·have c1:decide (0<=z)=false:=zI hz0;have HF:=zC (show f=K.gy x.nd x.l x.s x.r v m (tg:Int) (i + 1) by rw [K.Zz (by rw [<-tH.out];omega)];exact hf.out);clear hf;go_wp2_with fail;clear hb1;go_roundw
      case rel=>(go_light;exact ⟨i + 1,f,rfl,by go_num,hlt,HF.out,hbr⟩)
      case measure=>(go_light;simp [intOf] <;> omega)
   ·have HF:=zC (show K.nK x.nd x.l x.s x.r v m (tg:Int)=f by rw [K.agJ hm0,<-kR.out,show vn=i by omega];exact hf.out.symm);clear hf;go_wp2_with fail;go_ret;exact ⟨by rw [HF.out];rfl,hb⟩
theorem VF {nd:Int} {l:List Ro} {s:S} {r:List Q} {v:List Int} (hok:K.aP nd l s r v=true) {i:Nat} {k:Int} (h:v[i]? = some k) :
  ∃ (d dn:Nat) (q:Q),k=(d:Int)/\d < r.length/\r[d]? = some q/\K.req r k=q/\q.node=(dn:Int)/\(dn:Int) < nd/\0<=q.service/\q.service<=1000000:=by
 obtain ⟨-,-,-,hrq,-,hgo⟩:=K.fU hok;obtain ⟨h0,h1,h3⟩:=K.FW _ _ hgo _ (zD h);obtain ⟨d,hd⟩:∃ d:Nat,k=(d:Int):=⟨k.toNat,by omega⟩;subst hd;have hq:r[d]? = some (r[d]'(by omega)):=zF (by omega);obtain ⟨hn,hs,-⟩:=K.zO (hrq _ (zD hq));rw [K.jH hq] at h3;exact ⟨d,(r[d]'(by omega)).node.toNat,_,rfl,by omega,hq,K.jH hq,by omega,by omega,hs.1,hs.2⟩
theorem agi (x:C) (V:Option Addr) (vn vc:Nat) (v:List Int) (A:Option Addr) (tn tc:Nat) (ts:List Int) (m i P rest:Nat) (w:World) (hok:K.aP x.nd x.l x.s x.r v=true) (hx:At w x) (hV:Ints w V vn v) (hT:Ints w A tn ts)
  (l_:P=2 ^ i) (hrest:rest=m - P) (WU:P<=m) (hm:m < 64) (hml:m < 2 ^ v.length) (hi:i < vn) (hbit:m.testBit i=true)
  (hts:∀ j,j < vn->∃ y,ts[rest * 6 + j]? = some y/\(rest.testBit j=true->y=K.lab x.nd x.l x.s x.r v rest j)) :
  Calls Tryz.prog 133 #[.agg #[.int .i64 x.nd,.slice x.A x.n x.c],.agg #[.int .i64 x.s.day,.int .i64 x.s.ag,.int .i64 x.s.start,.int .i64 x.s.end_,.int .i64 x.s.aj,.slice x.s.A x.s.n x.s.c],.slice x.B x.m x.d,.slice V vn vc,.slice A tn tc,.int .i64 m,.int .i64 i] w λe w'=>e=.returned (.int .i64 (K.lab x.nd x.l x.s x.r v m i))/\Below w.heap.size w w':=by
 have kR:=zC hV.1;have hv6:vn<=6:=by rw [hV.1];exact (K.fU hok).2.2.2.2.1
 have Jg:i < 8:=by omega
 have HW3:=zC (show IntKind.i64.wrap ((2:Int) ^ i)=(P:Int) by rw [pz Jg,l_];simp);obtain ⟨iM,k,rfl,hk,ck⟩:=hV.at_ hi;have hlab:=K.agf (nd:=x.nd) (l:=x.l) (s:=x.s) (r:=x.r) (K.oC hok) hml hk hbit;rw [<-l_,<-hrest] at hlab;clear l_;obtain ⟨d,dn,q,hkd,hd,Be,y9,hdn,Pq,qs0,qs1⟩:=VF hok hk;rw [y9,hdn,<-K.aif] at hlab;obtain ⟨F,hF⟩:=zB (K.nK x.nd x.l x.s x.r v rest (dn:Int));have HF:=zC hF;have hFb:=K.agI (nd:=x.nd) (l:=x.l) (s:=x.s) (r:=x.r) (v:=v) (K.oC hok) (by obtain ⟨-,-,-,st1,pX⟩:=K.pW (K.fU hok).2.1;omega) rest (dn:Int);rw [<-hF] at hlab hFb;have Gu:=zC hlab;subst hkd;have hdm:d < x.m:=by rw [hx.aN.1];exact hd
 obtain ⟨wu,q2,rZ,hgq,hwq,e0,e1,e2,e3,e4,e5,e6⟩:=hx.aN.at_ hdm;rw [Be] at hgq;injection hgq with hgq;subst hgq;rw [hdn] at e0;obtain ⟨w1,hw1⟩:=zB (w.alloc (.cells #[.int .i64 x.nd,.slice x.A x.n x.c] 24));obtain ⟨w2,hw2⟩:=zB (w1.alloc (.cells #[.int .i64 x.s.day,.int .i64 x.s.ag,.int .i64 x.s.start,.int .i64 x.s.end_,.int .i64 x.s.aj,.slice x.s.A x.s.n x.s.c] 63));obtain ⟨w3,hw3⟩:=zB (w2.alloc (.cells #[.int .i64 (dn:Int),.int .i64 q.room,.int .i64 q.aF,.int .i64 q.service,.int .i64 q.aB,.int .i64 q.aA,.slice q.A q.n q.c] 47));have z1:w1.heap.size=w.heap.size + 1:=by rw [hw1];exact World.size_alloc _ _
 have z2:w2.heap.size=w.heap.size + 1 + 1:=by rw [hw2,World.size_alloc,z1]
 have b01:=zA hw1;have b12:=zA hw2;have bH:=zA hw3;have hP:Net w3 w.heap.size x.nd x.A x.n x.c:=by
  have h1:Net w1 w.heap.size x.nd x.A x.n x.c:=by rw [hw1];exact Net.new _ _ _ _ _
  exact h1.below (bel b12 bH)
 have hS:aT w3 (w.heap.size + 1) x.s:=by
  have h1:aT w2 (w.heap.size + 1) x.s:=by rw [<-z1,hw2];exact aT.new _ _
  exact h1.below bH
 have qh:w3.heap[w.heap.size + 1 + 1]? = some (.cells #[.int .i64 (dn:Int),.int .i64 q.room,.int .i64 q.aF,.int .i64 q.service,.int .i64 q.aB,.int .i64 q.aA,.slice q.A q.n q.c] 47 (0,0)):=by rw [<-z2,hw3];exact heap_alloc_new _ _
 have b02:=bel b01 b12;have hb:=bel b02 bH;have ck:=(b02.cell (cell_lt ck)).trans ck;have e0:=(b02.cell (cell_lt e0)).trans e0;have e1:=(b02.cell (cell_lt e1)).trans e1;have e2:=(b02.cell (cell_lt e2)).trans e2;have e3:=(b02.cell (cell_lt e3)).trans e3;have e4:=(b02.cell (cell_lt e4)).trans e4;have e5:=(b02.cell (cell_lt e5)).trans e5;have e6:=(b02.cell (cell_lt e6)).trans e6;rw [hw2,hw1] at ck e0 e1 e2 e3 e4 e5 e6;have aJ:=zC hok;have iT:=zC hts;have HWQ:=zC hwq;have TK:=zC (hx.b4 q (zD Be));have tu:=zC rZ;have kD:=zC (show IntKind.i64.wrap ((m:Int) - (P:Int))=(rest:Int) by rw [IntWalk.i64_in _ (by omega)];omega);have afz:rest < 64:=by omega
 have Qw:(0:Int)<=(i:Int):=by omega
 have kk4:(i:Int) < (vn:Int):=by omega
 have Y5:(0:Int)<=(d:Int):=by omega
 have Y6:(d:Int) < (x.m:Int):=by omega
 rw [rZ];clear hok hts hwq hk hlab hd Be y9 hdn hF rZ hrest WU hml hbit hdm b01 b12 b02 z1 z2;go_enter Tryz.func133,Tryz.ntmps133;go_upto_region 2 with fail;rw [<-hw1,<-hw2,<-hw3];clear hw1 hw2 hw3 ck e0 e1 e2 e3 e4 e5 e6 Y5 Y6;have hmk:∀ w',Below w3.heap.size w3 w'->(λw':World=>Below w3.heap.size w3 w'/\w'.cell? ⟨w.heap.size,0,none⟩=some (.int .i64 x.nd)/\w'.cell? ⟨w.heap.size,1,none⟩=some (.slice x.A x.n x.c)/\w'.cell? ⟨w.heap.size + 1,0,none⟩=some (.int .i64 x.s.day)/\w'.cell? ⟨w.heap.size + 1,1,none⟩=some (.int .i64 x.s.ag)/\w'.cell? ⟨w.heap.size + 1,2,none⟩=some (.int .i64 x.s.start)/\w'.cell? ⟨w.heap.size + 1,3,none⟩=some (.int .i64 x.s.end_)/\w'.cell? ⟨w.heap.size + 1,4,none⟩=some (.int .i64 x.s.aj)/\w'.cell? ⟨w.heap.size + 1,5,none⟩=some (.slice x.s.A x.s.n x.s.c)/\w'.cell? ⟨w.heap.size + 1 + 1,0,none⟩=some (.int .i64 (dn:Int))/\w'.cell? ⟨w.heap.size + 1 + 1,1,none⟩=some (.int .i64 q.room)/\w'.cell? ⟨w.heap.size + 1 + 1,2,none⟩=some (.int .i64 q.aF)/\w'.cell? ⟨w.heap.size + 1 + 1,3,none⟩=some (.int .i64 q.service)/\w'.cell? ⟨w.heap.size + 1 + 1,4,none⟩=some (.int .i64 q.aB)/\w'.cell? ⟨w.heap.size + 1 + 1,5,none⟩=some (.int .i64 q.aA)/\w'.cell? ⟨w.heap.size + 1 + 1,6,none⟩=some (.slice q.A q.n q.c)) w':=λw' h=>⟨h,(hP.below h).c0,(hP.below h).c1,(hS.below h).cells.1,(hS.below h).cells.2.1,(hS.below h).cells.2.2.1,(hS.below h).cells.2.2.2.1,(hS.below h).cells.2.2.2.2.1,(hS.below h).cells.2.2.2.2.2,af (az h qh) 0 _ rfl,af (az h qh) 1 _ rfl,af (az h qh) 2 _ rfl,af (az h qh) 3 _ rfl,af (az h qh) 4 _ rfl,af (az h qh) 5 _ rfl,af (az h qh) 6 _ rfl⟩;obtain ⟨-,p0,p1,s0,s1,s2,s3,s4,s5,q0,q1,q2,q3,q4,q5,q6⟩:=hmk _ (Below.refl _ _);by_cases h1:x.s.day < q.aB
 ·have c1:decide (x.s.day < q.aB)=true:=zH h1;have HX:=zC (show K.lab x.nd x.l x.s x.r v m i=-1 by rw [Gu.out];unfold K.FH;rw [if_pos (.inl h1)]);clear hmk h1;go_quiet (fail);go_wp2_with fail;go_ret;exact ⟨by rw [HX.out];rfl,below_drewN hb _⟩
 have c1:decide (x.s.day < q.aB)=false:=zI h1;by_cases h2:q.aA < x.s.day
 ·have c2:decide (q.aA < x.s.day)=true:=zH h2;have HX:=zC (show K.lab x.nd x.l x.s x.r v m i=-1 by rw [Gu.out];unfold K.FH;rw [if_pos (.inr (.inl h2))]);clear hmk h1 h2;go_quiet (fail);go_wp2_with fail;go_ret;exact ⟨by rw [HX.out];rfl,below_drewN hb _⟩
 have c2:decide (q.aA < x.s.day)=false:=zI h2;clear p0 p1 s0 s1 s2 s3 s4 s5 q0 q1 q2 q3 q4 q5 q6;have S0:=hmk _ (Below.refl _ _);have hSd:∀ w',(λw':World=>Below w3.heap.size w3 w'/\w'.cell? ⟨w.heap.size,0,none⟩=some (.int .i64 x.nd)/\w'.cell? ⟨w.heap.size,1,none⟩=some (.slice x.A x.n x.c)/\w'.cell? ⟨w.heap.size + 1,0,none⟩=some (.int .i64 x.s.day)/\w'.cell? ⟨w.heap.size + 1,1,none⟩=some (.int .i64 x.s.ag)/\w'.cell? ⟨w.heap.size + 1,2,none⟩=some (.int .i64 x.s.start)/\w'.cell? ⟨w.heap.size + 1,3,none⟩=some (.int .i64 x.s.end_)/\w'.cell? ⟨w.heap.size + 1,4,none⟩=some (.int .i64 x.s.aj)/\w'.cell? ⟨w.heap.size + 1,5,none⟩=some (.slice x.s.A x.s.n x.s.c)/\w'.cell? ⟨w.heap.size + 1 + 1,0,none⟩=some (.int .i64 (dn:Int))/\w'.cell? ⟨w.heap.size + 1 + 1,1,none⟩=some (.int .i64 q.room)/\w'.cell? ⟨w.heap.size + 1 + 1,2,none⟩=some (.int .i64 q.aF)/\w'.cell? ⟨w.heap.size + 1 + 1,3,none⟩=some (.int .i64 q.service)/\w'.cell? ⟨w.heap.size + 1 + 1,4,none⟩=some (.int .i64 q.aB)/\w'.cell? ⟨w.heap.size + 1 + 1,5,none⟩=some (.int .i64 q.aA)/\w'.cell? ⟨w.heap.size + 1 + 1,6,none⟩=some (.slice q.A q.n q.c)) w'->(λw':World=>Below w3.heap.size w3 w'/\w'.cell? ⟨w.heap.size,0,none⟩=some (.int .i64 x.nd)/\w'.cell? ⟨w.heap.size,1,none⟩=some (.slice x.A x.n x.c)/\w'.cell? ⟨w.heap.size + 1,0,none⟩=some (.int .i64 x.s.day)/\w'.cell? ⟨w.heap.size + 1,1,none⟩=some (.int .i64 x.s.ag)/\w'.cell? ⟨w.heap.size + 1,2,none⟩=some (.int .i64 x.s.start)/\w'.cell? ⟨w.heap.size + 1,3,none⟩=some (.int .i64 x.s.end_)/\w'.cell? ⟨w.heap.size + 1,4,none⟩=some (.int .i64 x.s.aj)/\w'.cell? ⟨w.heap.size + 1,5,none⟩=some (.slice x.s.A x.s.n x.s.c)/\w'.cell? ⟨w.heap.size + 1 + 1,0,none⟩=some (.int .i64 (dn:Int))/\w'.cell? ⟨w.heap.size + 1 + 1,1,none⟩=some (.int .i64 q.room)/\w'.cell? ⟨w.heap.size + 1 + 1,2,none⟩=some (.int .i64 q.aF)/\w'.cell? ⟨w.heap.size + 1 + 1,3,none⟩=some (.int .i64 q.service)/\w'.cell? ⟨w.heap.size + 1 + 1,4,none⟩=some (.int .i64 q.aB)/\w'.cell? ⟨w.heap.size + 1 + 1,5,none⟩=some (.int .i64 q.aA)/\w'.cell? ⟨w.heap.size + 1 + 1,6,none⟩=some (.slice q.A q.n q.c)) w'.drew:=λw' h=>hmk _ h.1.drew;have kG:∀ w',Below w3.heap.size w3 w'->Ints w' (some iM) vn v:=λw' h=>(hV.below hb).below h;have qo:∀ w',Below w3.heap.size w3 w'->At w' x:=λw' h=>(hx.below hb).below h;have hAr:∀ w',Below w3.heap.size w3 w'->Ints w' x.s.A x.s.n x.s.l:=λw' h=>(qo w' h).g_;have DL:∀ w',Below w3.heap.size w3 w'->bW w' (some wu) x.m x.r:=λw' h=>by rw [<-tu.out];exact (qo w' h).aN
 have Eo:m < 256:=by omega
 have Js:vn<=8:=by omega
 have hpl:(K.part v m).length<=1000000000:=by have h1:=K.nN v m;rw [<-kR.out] at h1;omega
 go_region_held3 (λw':World=>Below w3.heap.size w3 w'/\w'.cell? ⟨w.heap.size,0,none⟩=some (.int .i64 x.nd)/\w'.cell? ⟨w.heap.size,1,none⟩=some (.slice x.A x.n x.c)/\w'.cell? ⟨w.heap.size + 1,0,none⟩=some (.int .i64 x.s.day)/\w'.cell? ⟨w.heap.size + 1,1,none⟩=some (.int .i64 x.s.ag)/\w'.cell? ⟨w.heap.size + 1,2,none⟩=some (.int .i64 x.s.start)/\w'.cell? ⟨w.heap.size + 1,3,none⟩=some (.int .i64 x.s.end_)/\w'.cell? ⟨w.heap.size + 1,4,none⟩=some (.int .i64 x.s.aj)/\w'.cell? ⟨w.heap.size + 1,5,none⟩=some (.slice x.s.A x.s.n x.s.c)/\w'.cell? ⟨w.heap.size + 1 + 1,0,none⟩=some (.int .i64 (dn:Int))/\w'.cell? ⟨w.heap.size + 1 + 1,1,none⟩=some (.int .i64 q.room)/\w'.cell? ⟨w.heap.size + 1 + 1,2,none⟩=some (.int .i64 q.aF)/\w'.cell? ⟨w.heap.size + 1 + 1,3,none⟩=some (.int .i64 q.service)/\w'.cell? ⟨w.heap.size + 1 + 1,4,none⟩=some (.int .i64 q.aB)/\w'.cell? ⟨w.heap.size + 1 + 1,5,none⟩=some (.int .i64 q.aA)/\w'.cell? ⟨w.heap.size + 1 + 1,6,none⟩=some (.slice q.A q.n q.c))
  (first | assumption | exact S0 | exact hSd _ (by assumption))
  (first
   | (go_at_call 183;refine (aaf (some iM) vn vc v m _ (kG _ (And.left (by assumption))) Js Eo).mono ?_;rintro e wb ⟨⟨RA,rn,rc,rfl,hR⟩,bb⟩;have S1:=hmk _ (bel (And.left (by assumption)) bb);have hrn:rn<=1000000000:=by (rw [hR.1];exact hpl))
   | (go_at_call 182;refine (aa7 x.s (some wu) x.m x.d x.r RA rn rc (K.part v m) _ (hAr _ S1.1) hx.b2 (DL _ S1.1) hx.b3 hx.b4 hR hrn).mono ?_;rintro e wc ⟨rfl,bc⟩;have S2:=hmk _ (bel S1.1 bc))
   | fail)
 obtain ⟨fb,hfb⟩:=zB (T.fits x.s x.r (K.part v m));rw [<-hfb];have yg:=S2.1;have HL2:=zC (show K.lab x.nd x.l x.s x.r v m i=(if fb=false then -1 else if F < 0\/x.s.end_ < F then -1 else if (H.fit q.l F q.service).2=false\/x.s.end_ < (H.fit q.l F q.service).1 + q.service then -1 else (H.fit q.l F q.service).1 + q.service) by
  rw [Gu.out];unfold K.FH;rw [<-hfb];have g1:¬ x.s.day < q.aB:=by omega
  have g2:¬ q.aA < x.s.day:=by omega
  simp only [g1,g2,false_or])
 clear S0 S1 S2 hR hrn hpl bb bc hfb Eo Gu hSd;cases fb
 ·have HX:=zC (show K.lab x.nd x.l x.s x.r v m i=-1 by rw [HL2.out];rfl);clear hmk;go_wp2_with fail;go_ret;exact ⟨by rw [HX.out];rfl,bel hb yg⟩
 have hP3:=kD.out;have hw3:=HW3.out;have hP4:wrap64 ((m:Int) - (P:Int))=(rest:Int):=by rw [<-IntWalk.i64_left];exact hP3
 have hw4:wrap64 ((2:Int) ^ i)=(P:Int):=by rw [<-IntWalk.i64_left];exact hw3
 go_upto_region 4 with fail;obtain ⟨-,p0,p1,s0,s1,s2,s3,s4,s5,q0,-⟩:=hmk _ yg;have p0:=ah.cell p0;have p1:=ah.cell p1;have s0:=ah.cell s0;have s1:=ah.cell s1;have s2:=ah.cell s2;have s3:=ah.cell s3;have s4:=ah.cell s4;have s5:=ah.cell s5;have q0:=ah.cell q0;have C:∀ j:ah wc,Calls Tryz.prog 184 #[.agg #[.int .i64 x.nd,.slice x.A x.n x.c],.agg #[.int .i64 x.s.day,.int .i64 x.s.ag,.int .i64 x.s.start,.int .i64 x.s.end_,.int .i64 x.s.aj,.slice x.s.A x.s.n x.s.c],.slice (some wu) x.m x.d,.slice (some iM) vn vc,.slice A tn tc,.int .i64 rest,.int .i64 dn] j.val λe w'=>e=.returned (.int .i64 F)/\Below j.val.heap.size j.val w':=λj=>by
  rw [HF.out,<-tu.out];exact acQ x (some iM) vn vc v A tn tc ts rest dn _ aJ.out (qo _ (bel yg j.property)) (kG _ (bel yg j.property)) ((hT.below hb).below (bel yg j.property)) iT.out afz Pq
 clear kG hAr DL qo;refine dU (by kernel_rfl) (by kernel_rfl) ?_;repeat (go_big_quiet_step ((go_at_call 184;exact ah.calls (C _))))
 refine wpQuiet_nil ?_;rintro wd ⟨⟨_,bd⟩,rfl⟩;have Ai:Below w3.heap.size w3 wd:=bel yg bd;clear C bd hP3 hP4 hw3 hw4;clear p0 p1 s0 s1 s2 s3 s4 s5 q0;obtain ⟨-,p0,p1,s0,s1,s2,s3,s4,s5,q0,q1,q2,q3,q4,q5,q6⟩:=hmk _ Ai;by_cases h3:F < 0
 ·have c3:decide (F < 0)=true:=zH h3;have HX:=zC (show K.lab x.nd x.l x.s x.r v m i=-1 by rw [HL2.out,if_neg (by simp),if_pos (.inl h3)]);clear hmk;go_wp2_with fail;go_ret;exact ⟨by rw [HX.out];rfl,bel hb Ai⟩
 have c3:decide (F < 0)=false:=zI h3;by_cases h4:x.s.end_ < F
 ·have c4:decide (x.s.end_ < F)=true:=zH h4;have HX:=zC (show K.lab x.nd x.l x.s x.r v m i=-1 by rw [HL2.out,if_neg (by simp),if_pos (.inr h4)]);clear hmk;go_wp2_with fail;go_ret;exact ⟨by rw [HX.out];rfl,bel hb Ai⟩
 have c4:decide (x.s.end_ < F)=false:=zI h4;have Tu:=zC (show K.lab x.nd x.l x.s x.r v m i=(if (H.fit q.l F q.service).2=false\/x.s.end_ < (H.fit q.l F q.service).1 + q.service then -1 else (H.fit q.l F q.service).1 + q.service) by
  rw [HL2.out,if_neg (by simp),if_neg (by simp [h3,h4])])
 clear HL2;go_wp2_with fail;refine (aa6 q.A q.n q.c q.l F q.service _ (HWQ.out.below (bel hb Ai)) TK.out).mono ?_;obtain ⟨FT,lN⟩:=zB (H.fit q.l F q.service);have hfit:FT.2=true->0<=F/\F<=1000000/\F<=FT.1/\FT.1 + q.service<=1000000:=λh=>by
  rw [lN] at h ⊢;obtain ⟨-,z1,-,z2,z3⟩:=H.lM h;exact ⟨z1.1,z1.2,z2,z3⟩
 have SS:=zC hfit;have hl3:=Tu.out;rw [<-lN] at hl3 ⊢;have Ls:=zC hl3;clear hl3 Tu hfit lN;obtain ⟨B,okb⟩:=FT;rintro e we ⟨rfl,be⟩;have Hq:=bel Ai be;clear p0 p1 s0 s1 s2 s3 s4 s5 q0 q1 q2 q3 q4 q5 q6;obtain ⟨-,p0,p1,s0,s1,s2,s3,s4,s5,q0,q1,q2,q3,q4,q5,q6⟩:=hmk _ Hq;clear hmk be Ai yg;cases okb
 ·have HX:=zC (show K.lab x.nd x.l x.s x.r v m i=-1 by rw [Ls.out,if_pos (.inl rfl)]);go_wp2_with fail;go_ret;exact ⟨by rw [HX.out];rfl,bel hb Hq⟩
 have hfit:=SS.out rfl;dsimp only at hfit;have hbs:IntKind.i64.wrap (B + q.service)=B + q.service:=IntWalk.i64_in _ (by omega);have Jd:wrap64 (B + q.service)=B + q.service:=by rw [<-IntWalk.i64_left];exact hbs
 clear hfit SS;by_cases h5:x.s.end_ < B + q.service
 ·have c5:decide (x.s.end_ < B + q.service)=true:=zH h5;have HX:=zC (show K.lab x.nd x.l x.s x.r v m i=-1 by rw [Ls.out,if_pos (.inr h5)]);go_wp2_with fail;go_ret;exact ⟨by rw [HX.out];rfl,bel hb Hq⟩
 ·have c5:decide (x.s.end_ < B + q.service)=false:=zI h5;have HX:=zC (show K.lab x.nd x.l x.s x.r v m i=B + q.service by rw [Ls.out,if_neg (by simp [h5])]);go_wp2_with fail;go_ret;exact ⟨by rw [HX.out];rfl,bel hb Hq⟩
namespace K
section
variable {nd : Int} {l : List Ro} {s : S} {r : List Q} {v : List Int}
def kE (nd:Int) (l:List Ro) (s:S) (r:List Q) (v:List Int) (N:Nat) (ts:List Int) (m i:Nat):Prop :=
 ts.length=6 * N/\∀ m' j,j < v.length->m'.testBit j=true->(m' < m\/(m'=m/\j < i))->ts[m' * 6 + j]? = some (lab nd l s r v m' j)
theorem ajT (N:Nat):kE nd l s r v N (List.replicate (6 * N) 0) 1 0 :=
 ⟨by simp,λm' j _ hb h=>by
  have:m'=0:=by omega
  rw [this,Nat.zero_testBit] at hb;cases hb⟩
theorem kE.skip {N m i:Nat} {ts:List Int} (h:kE nd l s r v N ts m i) (hb:m.testBit i=false):kE nd l s r v N ts m (i + 1) :=
 ⟨h.1,λm' j hj hb' hc=>by
  refine h.2 m' j hj hb' ?_;rcases hc with hc | ⟨rfl,hc⟩
  ·exact .inl hc
  ·by_cases e:j=i
   ·rw [e,hb] at hb';cases hb'
   ·exact .inr ⟨rfl,by omega⟩⟩
theorem kE.row {N m:Nat} {ts:List Int} (h:kE nd l s r v N ts m v.length):kE nd l s r v N ts (m + 1) 0 :=
 ⟨h.1,λm' j hj hb' hc=>h.2 m' j hj hb' (by
  by_cases e:m'=m
  ·exact .inr ⟨e,hj⟩
  ·exact .inl (by omega))⟩
theorem kE.put {N m i z:Nat} {ts:List Int} (h:kE nd l s r v N ts m i) (hz:z=m * 6 + i) (hv:v.length<=6) (hi:i < v.length) (hm:m < N):kE nd l s r v N (ts.set z (lab nd l s r v m i)) m (i + 1):=by
 subst hz;refine ⟨by rw [List.length_set];exact h.1,λm' j hj hb' hc=>?_⟩;rw [List.getElem?_set];by_cases e:m * 6 + i=m' * 6 + j
 ·have e1:m'=m:=by omega
  have e2:j=i:=by omega
  subst e1 e2;rw [if_pos rfl,if_pos (by rw [h.1];omega)]
 ·rw [if_neg e];refine h.2 m' j hj hb' ?_;rcases hc with hc | ⟨rfl,hc⟩
  ·exact .inl hc
  ·exact .inr ⟨rfl,by omega⟩
theorem kE.get {N m i rest:Nat} {ts:List Int} (h:kE nd l s r v N ts m i) (hr:rest < m) (hm:m < N) (hv:v.length<=6):∀ j,j < v.length->∃ y,ts[rest * 6 + j]? = some y/\(rest.testBit j=true->y=lab nd l s r v rest j):=λj hj=>by
 have hl:rest * 6 + j < ts.length:=by rw [h.1];omega
 refine ⟨_,zF hl,λhb=>?_⟩;have h1:=h.2 rest j hj hb (.inl hr);rw [zF hl] at h1;injection h1
end
end K
theorem ahD {w:World} {base:Nat} {e:TypeId} {size n:Nat} {v:Value} {xs:List Value} (h:w.ownsRow base e size v n xs) {ad:Addr} {m c:Nat} {o:List Int} (hO:OI w ad m c o) (k:Nat) (u:Value) (hlt:ad.block < base):(w.setCell (ad.add k) u).ownsRow base e size v n xs:=by
 obtain ⟨-,-,g,cur,rfl,-,-⟩:=hO;rw [jy];refine h.kept (kU (ni w (some g)) g k u rfl) (.inr λe=>?_);have:=(h.lt g e).1;have:g < base:=hlt;omega
theorem Za (x:C) (V:Option Addr) (vn vc:Nat) (v:List Int) (w:World) (hx:At w x) (hV:Ints w V vn v) (hvn:vn<=1000000000) :
  Calls Tryz.prog 82 #[.agg #[.int .i64 x.nd,.slice x.A x.n x.c],.agg #[.int .i64 x.s.day,.int .i64 x.s.ag,.int .i64 x.s.start,.int .i64 x.s.end_,.int .i64 x.s.aj,.slice x.s.A x.s.n x.s.c],.slice x.B x.m x.d,.slice V vn vc] w λe w'=>Ue w w' (K.aS x.nd x.l x.s x.r v) e:=by
 obtain ⟨w0,hw0⟩:=zB ((w.alloc (.cells #[.int .i64 x.nd,.slice x.A x.n x.c] 24)).alloc (.cells #[.int .i64 x.s.day,.int .i64 x.s.ag,.int .i64 x.s.start,.int .i64 x.s.end_,.int .i64 x.s.aj,.slice x.s.A x.s.n x.s.c] 63));have z1:=World.size_alloc w (.cells #[.int .i64 x.nd,.slice x.A x.n x.c] 24);have b0:Below w.heap.size w w0:=by rw [hw0];exact bel ((Below.refl _ _).alloc (zG _) _) ((Below.refl _ _).alloc (zG _) _)
 have hN:Net w0 w.heap.size x.nd x.A x.n x.c:=by
  rw [hw0];exact (Net.new w x.nd x.A x.n x.c).below ((Below.refl _ _).alloc (zG _) _)
 have hS:aT w0 (w.heap.size + 1) x.s:=by
  have h:=aT.new (w.alloc (.cells #[.int .i64 x.nd,.slice x.A x.n x.c] 24)) x.s;rw [z1] at h;rw [hw0];exact h
 have p0:=hN.c0;have p1:=hN.c1;obtain ⟨s0,s1,s2,s3,s4,s5⟩:=hS.cells;rw [hw0] at p0 p1 s0 s1 s2 s3 s4 s5;go_enter Tryz.func82,Tryz.ntmps82;go_wp2_with fail;rw [<-hw0];clear hw0 z1 p0 p1 s0 s1 s2 s3 s4 s5;refine (Kq x V vn vc v _ (hx.below b0) (hV.below b0) hvn).mono ?_;obtain ⟨okb,jQ⟩:=zB (K.aP x.nd x.l x.s x.r v);rw [<-jQ];rintro e w1 ⟨rfl,b1⟩;have hb:=bel b0 b1;have hN:=hN.below b1;have hS:=hS.below b1;clear b0 b1;cases okb
 ·have HX:=zC (show K.aS x.nd x.l x.s x.r v=[] by simp [K.aS,<-jQ]);clear jQ;go_wp2_with fail;go_ret;exact ⟨⟨none,0,0,rfl,by rw [HX.out];exact ⟨rfl,rfl,λh=>absurd h (by omega)⟩,λad e=>(nomatch e)⟩,hb⟩
 have hok:=jQ.symm;have hv6:vn<=6:=by rw [hV.1];exact (K.fU hok).2.2.2.2.1
 have kR:=zC hV.1;obtain ⟨N,hNN⟩:∃ N,N=2 ^ vn:=⟨_,rfl⟩;have hN1:1<=N:=by rw [hNN];exact Nat.two_pow_pos vn
 have DT:N<=64:=by rw [hNN];exact Nat.pow_le_pow_right (by omega) hv6
 obtain ⟨N6,kY⟩:∃ N6,N6=6 * N:=⟨_,rfl⟩;have tq:=zC (show N=2 ^ v.length by rw [hNN,kR.out]);have HW1:=zC (show IntKind.i64.wrap ((2:Int) ^ vn)=(N:Int) by rw [pz (by omega),hNN];simp);have ES:IntKind.i64.wrap ((6:Int) * 2 ^ vn)=(N6:Int):=by
  have h1:((2:Int) ^ vn)=(N:Int):=by rw [hNN];simp
  rw [h1,IntWalk.i64_in _ (by omega)];omega
 have HW2:=zC (show wrap64 ((2:Int) ^ vn)=(N:Int) by rw [<-IntWalk.i64_left];exact HW1.out);have JA:wrap64 ((6:Int) * 2 ^ vn)=(N6:Int):=by rw [<-IntWalk.i64_left];exact ES
 have acf:=zC ES;have acg:=zC JA;have aJ:=zC hok;clear hNN jQ ES JA;have aeM:N6<=1000000:=by omega
 have hmk:=λw'=>BL N6 aeM w';have ES:=acf.out;have JA:=acg.out;obtain ⟨w2,hw2⟩:=zB (w1.alloc (.cells (intCells (List.replicate N6 0)).toArray 3));have b12:=zA hw2;have hT2:OI w2 ⟨w1.heap.size,0,none⟩ N6 N6 (List.replicate N6 0):=⟨by simp,zG _,_,_,rfl,by rw [hw2];exact heap_alloc_new _ _,by simp [intCells]⟩;have z2:w2.heap.size=w1.heap.size + 1:=by rw [hw2];exact World.size_alloc _ _
 have iT:=zC (show K.kE x.nd x.l x.s x.r v N (List.replicate N6 0) 1 0 by rw [kY];exact K.ajT N);have HN6:=zC kY;clear kY;obtain ⟨qZ,I7⟩:∃ qZ:Addr,qZ=⟨w1.heap.size,0,none⟩:=⟨_,rfl⟩;rw [<-I7] at hT2;have aeR:qZ.block=w1.heap.size:=by rw [I7]
 go_upto_region 5 with fail;rw [<-hw2,<-I7];clear hw2 I7 hmk ES JA;go_wp2_with fail;go_loopw [9,11] (λv9 v11 wr=>∃ (m:Nat) (ts:List Int),v11=.int .i64 m/\1<=m/\m<=N/\OI wr qZ N6 N6 ts/\Hid (K.kE x.nd x.l x.s x.r v N ts m 0)/\(K.gz x.nd x.l x.s x.r v m 0<=(K.aS x.nd x.l x.s x.r v).length)/\wr.ownsRow w2.heap.size 167 3 v9 (K.gz x.nd x.l x.s x.r v m 0) (((K.aS x.nd x.l x.s x.r v).take (K.gz x.nd x.l x.s x.r v m 0)).flatMap jR)/\Below w1.heap.size w1 wr/\w2.heap.size<=wr.heap.size) (λ_ v11 _=>N - (intOf v11).toNat)
 case atStart=>exact ⟨1,_,rfl,zG _,hN1,hT2,iT.out,by rw [K.ZR];exact Nat.zero_le _,by rw [K.ZR];exact World.ownsRow_nil _ _ _ _,b12,zG _⟩
 case round =>
  clear hT2 iT b12;obtain ⟨m,ts,rfl,hm1,hmN,hT,hts,hnl,hown,hbr,hsz⟩:=hrel;by_cases hlt:m < N
  ·have hlt':decide ((m:Int) < (N:Int))=true:=by simp;exact hlt
   have hw1:=HW1.out;have hw2:=HW2.out;go_wp2_with fail;clear hw1 hw2;go_loopw [9,12] (λv9 v12 wi=>∃ (i:Nat) (ts:List Int),v12=.int .i64 i/\i<=vn/\OI wi qZ N6 N6 ts/\Hid (K.kE x.nd x.l x.s x.r v N ts m i)/\(K.gz x.nd x.l x.s x.r v m i<=(K.aS x.nd x.l x.s x.r v).length)/\wi.ownsRow w2.heap.size 167 3 v9 (K.gz x.nd x.l x.s x.r v m i) (((K.aS x.nd x.l x.s x.r v).take (K.gz x.nd x.l x.s x.r v m i)).flatMap jR)/\Below w1.heap.size w1 wi/\w2.heap.size<=wi.heap.size) (λ_ v12 _=>vn - (intOf v12).toNat)
   case atStart=>exact ⟨0,ts,rfl,Nat.zero_le _,hT,hts,hnl,hown,hbr,hsz⟩
   case round =>
    clear hT hts hnl hown hbr hsz;obtain ⟨i,ts,rfl,hi,hT,hts,hnl,hown,hbr,hsz⟩:=hrel;by_cases qy:i < vn
    ·cases hbit:m.testBit i
     ·have hb1:bits BinOp.and IntKind.i64 ((m:Int) / 2 ^ i) 1=0:=by rw [lI (by omega) (by omega),hbit];rfl
      have HNS:=zC (K.ag9 (nd:=x.nd) (l:=x.l) (s:=x.s) (r:=x.r) (v:=v) hbit);have HT2:=zC (hts.out.skip hbit);rw [<-HNS.out] at hown hnl;clear hbit hts;go_wp2_with fail;go_roundw
      case rel=>exact ⟨i + 1,ts,by go_num,qy,hT,HT2.out,hnl,hown,hbr,hsz⟩
      case measure=>simp [intOf];omega
     ·have hb1:bits BinOp.and IntKind.i64 ((m:Int) / 2 ^ i) 1=1:=by rw [lI (by omega) (by omega),hbit];rfl
      go_upto_region 12 with fail;clear hb1;obtain ⟨hre,hrb⟩:=Hz (show m < 64 by omega) (show i < 6 by omega) hbit;have vH:=zC hbit;clear hbit hrb;have hN':=hN.below hbr;have hS':=hS.below hbr;have hbw:=bel hb hbr;have p0:=hN'.c0;have p1:=hN'.c1;obtain ⟨s0,s1,s2,s3,s4,s5⟩:=hS'.cells;obtain ⟨P,hP⟩:∃ P,P=2 ^ i:=⟨_,rfl⟩;rw [<-hP] at hre;have hpw:1<=P:=by rw [hP];exact Nat.two_pow_pos i
      obtain ⟨rest,hrest⟩:=zB (m - P);have CL:=agi x V vn vc v (some qZ) N6 N6 ts m i P rest wr aJ.out (hx.below hbw) (hV.below hbw) hT.ints hP hrest (by omega) (by omega) (by rw [<-tq.out];exact hlt) qy vH.out (λj hj=>hts.out.get (by omega) hlt (by rw [<-kR.out];exact hv6) j (by rw [<-kR.out];exact hj));clear hre hP hpw hrest hN' hS';go_wp2_with fail;refine CL.mono ?_;obtain ⟨L,hL⟩:=zB (K.lab x.nd x.l x.s x.r v m i);rw [<-hL];rintro e w3 ⟨rfl,b3⟩;have iV:=hT.below b3;have XF:Below w1.heap.size w1 w3:=bel hbr b3;have hown3:=own_below hown b3;have hsz3:w2.heap.size<=w3.heap.size:=Nat.le_trans hsz b3.size;clear CL p0 p1 s0 s1 s2 s3 s4 s5 hT hown hbr hsz b3 hbw;obtain ⟨m6,j_⟩:=zB (m * 6);obtain ⟨z,hz⟩:=zB (m6 + i);have HZ:=zC (show z=m * 6 + i by rw [hz,j_]);have hzN:z < N6:=by rw [HN6.out];omega
      obtain ⟨old,hold⟩:∃ old,ts[z]? = some old:=⟨_,zF (by rw [<-iV.1];exact hzN)⟩;have cz:=iV.cell hold;have fz:=iV.free z;have Qx:IntKind.i64.wrap ((m:Int) * 6)=(m6:Int):=by rw [IntWalk.i64_in _ (by omega)];omega
      have Qy:IntKind.i64.wrap ((m6:Int) + (i:Int))=(z:Int):=by rw [IntWalk.i64_in _ (by omega)];omega
      have EO:(0:Int)<=(z:Int):=by omega
      have BI:(z:Int) < (N6:Int):=by omega
      obtain ⟨w4,hw4⟩:=zB (w3.setCell (qZ.add z) (.int .i64 L));have Xh:OI w4 qZ N6 N6 (ts.set z L):=by rw [hw4];exact iV.set z L
      have ae2:Below w1.heap.size w1 w4:=by rw [hw4];exact XF.setCell (by rw [add_block,aeR];exact zG _) _
      have z4:w4.heap.size=w3.heap.size:=by rw [hw4];simp
      have hown4:w4.ownsRow w2.heap.size 167 3 u9 (K.gz x.nd x.l x.s x.r v m i) (((K.aS x.nd x.l x.s x.r v).take (K.gz x.nd x.l x.s x.r v m i)).flatMap jR):=by
       rw [hw4];exact ahD hown3 iV z _ (by omega)
      have aV:=zC (K.ag7 (nd:=x.nd) (l:=x.l) (s:=x.s) (r:=x.r) (v:=v) vH.out);have Jk:=K.agt (nd:=x.nd) (l:=x.l) (s:=x.s) (r:=x.r) aJ.out (by rw [<-tq.out];exact hlt) (by rw [<-kR.out];exact qy) vH.out;rw [<-hL] at Jk;have h_:=zC (take_snoc Jk);have afn:K.gz x.nd x.l x.s x.r v m (i + 1)<=(K.aS x.nd x.l x.s x.r v).length:=by rw [aV.out];exact (zE.1 Jk).1
      have MG:=zC (show K.kE x.nd x.l x.s x.r v N (ts.set z L) m (i + 1) by rw [hL];exact hts.out.put HZ.out (by rw [<-kR.out];exact hv6) (by rw [<-kR.out];exact qy) hlt);have hll:=K.Qz x.nd x.l x.s x.r v;have hln:K.gz x.nd x.l x.s x.r v m i<=1000000:=by omega
      have afG:w2.heap.size<=w4.heap.size:=by omega
      clear j_ hz hold hL Jk hll hts iV hown3 XF hnl;go_upto_region 14 with fail;rw [<-hw4];clear hw4 cz fz Qx Qy EO BI z4 hsz3;have ha:Below w4.heap.size w4 (w4.alloc (.cells #[.int .i64 (m:Int),.int .i64 (i:Int),.int .i64 L] 167)):=(Below.refl _ _).alloc (zG _) _;have hown5:=own_below hown4 ha;have hs2:w2.heap.size<=(w4.alloc (.cells #[.int .i64 (m:Int),.int .i64 (i:Int),.int .i64 L] 167)).heap.size:=Nat.le_trans afG ha.size;go_wp2_with (at_builtin;refine UF rfl (.tmp 58) (.tmp 63) rfl w2.heap.size u9 (K.gz x.nd x.l x.s x.r v m i) ((K.aS x.nd x.l x.s x.r v).take (K.gz x.nd x.l x.s x.r v m i)) rfl hown5 w4.heap.size m i L rfl (bI _ _ _ rfl) hln hs2 ?_;intro tv' w6 hown6 hgrow6 gW);have b6:Below w1.heap.size w1 w6:=a_ (bel ae2 ha) hgrow6 (λg e=>by have:=(hown4.lt g e).1;omega);have dR:OI w6 qZ N6 N6 (ts.set z L):=(Xh.below ha).grown hgrow6 (λe=>by have:=(hown4.lt _ e.symm).1;omega);have afH:w2.heap.size<=w6.heap.size:=Nat.le_trans hs2 hgrow6.size;rw [<-h_.out,<-aV.out] at hown6;clear hgrow6 gW hown5 hown4 Xh ha hs2;go_roundw
      case rel=>(go_light;exact ⟨i + 1,_,by go_num,qy,dR,MG.out,afn,hown6,b6,afH⟩)
      case measure=>(go_light;simp [intOf] <;> omega)
    ·have HRW:=zC (K.ag8 (nd:=x.nd) (l:=x.l) (s:=x.s) (r:=x.r) (v:=v) m);have hin:i=v.length:=by rw [<-kR.out];omega
     have MG:=zC (show K.kE x.nd x.l x.s x.r v N ts (m + 1) 0 by have h:=hts.out;rw [hin] at h;exact h.row);rw [hin,HRW.out] at hown hnl;clear hin hts;go_wp2_with fail;go_roundw
     case rel=>exact ⟨m + 1,ts,by go_num,by omega,by omega,hT,MG.out,hnl,hown,hbr,hsz⟩
     case measure=>simp [intOf];omega
  ·have X6:m=N:=by omega
   have he:=K.ag6 (nd:=x.nd) (l:=x.l) (s:=x.s) (r:=x.r) aJ.out;rw [X6,tq.out,he,List.take_length] at hown;have Et:=bG hown;obtain ⟨A9,c9,rfl,jO,-⟩:=dh hown;have PV:∀ ad,A9=some ad->w.heap.size<=ad.block:=λad e=>(by have h1:=(Et ad.block (by rw [e];rfl)).1;have h2:=hb.size;omega);clear Et;have hw1:decide ((m:Int) < IntKind.i64.wrap ((2:Int) ^ vn))=false:=by rw [HW1.out];simp;omega
   have hw2:decide ((m:Int) < wrap64 ((2:Int) ^ vn))=false:=by rw [HW2.out];simp;omega
   clear he X6 hts hown;go_wp2_with fail;clear hw1 hw2;go_ret;exact ⟨⟨_,_,_,rfl,⟨rfl,jO⟩,PV⟩,bel hb hbr⟩
theorem agp (x:C) (V:Option Addr) (vn vc:Nat) (v:List Int) (w:World) (hx:At w x) (hV:Ints w V vn v) (hvn:vn<=1000000000) :
  Calls Tryz.prog 82 #[.agg #[.int .i64 x.nd,.slice x.A x.n x.c],.agg #[.int .i64 x.s.day,.int .i64 x.s.ag,.int .i64 x.s.start,.int .i64 x.s.end_,.int .i64 x.s.aj,.slice x.s.A x.s.n x.s.c],.slice x.B x.m x.d,.slice V vn vc] w λe w'=>Ud w w' (K.aS x.nd x.l x.s x.r v) e :=
 (Za x V vn vc v w hx hV hvn).mono λ_ _ ⟨⟨A,n,c,h1,h2,_⟩,hb⟩=>⟨⟨A,n,c,h1,h2⟩,hb⟩
theorem Zt {w:World} {g:Nat} {i:Int} (h:w.heap[g]? = some (.cells #[.int .i64 i] 3 (0,0))):Rd w 1 (some ⟨g,0,none⟩) 1 [.int .i64 i] :=
 ⟨rfl,λ_=>⟨_,rfl,λj u hu=>by
  cases j with
  | zero =>
   have hu:some (Value.int .i64 i)=some u:=hu;injection hu with hu;subst hu;exact af h 0 _ rfl
  | succ j=>simp at hu⟩⟩
def MM (x:C) (v:List Int) (i a t:Int) (w w':World) (e:Ending):Prop:=e=.returned (.tuple #[.int .i64 (K.ax x.nd x.l x.s x.r v i a t).1,.int .i64 (K.ax x.nd x.l x.s x.r v i a t).2])/\Below w.heap.size w w'
theorem xh {x:C} {v:List Int} {i a t b er:Int} {w w':World} (h:K.ax x.nd x.l x.s x.r v i a t=(b,er)) (hb:Below w.heap.size w w'):MM x v i a t w w' (.returned (.tuple #[.int .i64 b,.int .i64 er])):=⟨by rw [h],hb⟩
theorem agv (x:C) (V:Option Addr) (vn vc:Nat) (v:List Int) (i:Nat) (q:Q) (a t:Int) (w:World) (hx:At w x) (hV:Ints w V vn v) (hvn:vn<=100000) (hne:K.aG x.nd x.l=0) (ha:0<=a/\a < x.nd) (hq:x.r[i]? = some q) (hno:0<=q.node/\q.node < x.nd) (ht:0<=t/\t<=1000000)
  (hse:0<=q.service/\q.service<=1000000) :
  Calls Tryz.prog 180 #[.agg #[.int .i64 x.nd,.slice x.A x.n x.c],.agg #[.int .i64 x.s.day,.int .i64 x.s.ag,.int .i64 x.s.start,.int .i64 x.s.end_,.int .i64 x.s.aj,.slice x.s.A x.s.n x.s.c],.slice x.B x.m x.d,.slice V vn vc,.int .i64 i,.int .i64 a,.int .i64 t] w λe w'=>MM x v i a t w w' e:=by
 have him:i < x.m:=by rw [hx.aN.1];exact (zE.1 hq).1
 obtain ⟨w1,hw1⟩:=zB (w.alloc (.cells #[.int .i64 x.nd,.slice x.A x.n x.c] 24));obtain ⟨w2,hw2⟩:=zB (w1.alloc (.cells #[.int .i64 x.s.day,.int .i64 x.s.ag,.int .i64 x.s.start,.int .i64 x.s.end_,.int .i64 x.s.aj,.slice x.s.A x.s.n x.s.c] 63));obtain ⟨w3,hw3⟩:=zB (w2.alloc (.cells #[.int .i64 q.node,.int .i64 q.room,.int .i64 q.aF,.int .i64 q.service,.int .i64 q.aB,.int .i64 q.aA,.slice q.A q.n q.c] 47));have z1:w1.heap.size=w.heap.size + 1:=by rw [hw1];exact World.size_alloc _ _
 have z2:w2.heap.size=w.heap.size + 1 + 1:=by rw [hw2,World.size_alloc,z1]
 have b01:=zA hw1;have b12:=zA hw2;have bH:=zA hw3;have hP:Net w3 w.heap.size x.nd x.A x.n x.c:=by
  have h1:Net w1 w.heap.size x.nd x.A x.n x.c:=by rw [hw1];exact Net.new _ _ _ _ _
  exact (h1.below b12).below bH
 have hS:aT w3 (w.heap.size + 1) x.s:=by
  have h1:aT w2 (w.heap.size + 1) x.s:=by rw [<-z1,hw2];exact aT.new _ _
  exact h1.below bH
 have hQ:jK w3 (w.heap.size + 1 + 1) q:=by rw [<-z2,hw3];exact jK.new w2 q
 have hb:=bel (bel b01 b12) bH;obtain ⟨ad,q',hB,hgq,hwq,e0,e1,e2,e3,e4,e5,e6⟩:=(hx.aN.below (bel b01 b12)).at_ him;rw [hq] at hgq;injection hgq with hgq;subst hgq;have dB:=zC (K.jH hq);have dL:=hx.b4 q (zD hq);have i0:(0:Int)<=(i:Int):=by omega
 have i1:(i:Int) < (x.m:Int):=by omega
 have HB:=zC hB;clear hq;rw [hw2,hw1] at e0 e1 e2 e3 e4 e5 e6;rw [hB];cases d1:decide (x.s.day < q.aB);rotate_left
 ·have HX:=zC (show K.ax x.nd x.l x.s x.r v i a t=(0,17) by unfold K.ax;rw [dB.out,if_pos (.inl (by simpa using d1))]);clear hB;go_enter Tryz.func180,Tryz.ntmps180;go_wp2_with fail;go_ret2
  rw [<-hw1,<-hw2,<-hw3];exact xh HX.out hb
 cases d2:decide (q.aA < x.s.day);rotate_left
 ·have HX:=zC (show K.ax x.nd x.l x.s x.r v i a t=(0,17) by unfold K.ax;rw [dB.out,if_pos (.inr (by simpa using d2))]);clear hB;go_enter Tryz.func180,Tryz.ntmps180;go_wp2_with fail;go_ret2
  rw [<-hw1,<-hw2,<-hw3];exact xh HX.out hb
 have HD:=zC (show ¬ (x.s.day < (K.req x.r i).aB\/(K.req x.r i).aA < x.s.day) by rw [dB.out];simp at d1 d2;omega);clear hB;go_enter Tryz.func180,Tryz.ntmps180;go_wp2_with fail;rw [<-hw1,<-hw2,<-hw3];clear e0 e1 e2 e3 e4 e5 e6 i0 i1 z1 z2 b01 b12 hw1 hw2 hw3;have S0:=iU.mk' hP hS (Below.refl w3.heap.size w3);have hAx:∀ w',iU w3 w.heap.size x w'->At w' x:=λw' h=>hx.below (bel hb h.1);have kG:∀ w',iU w3 w.heap.size x w'->Ints w' V vn v:=λw' h=>hV.below (bel hb h.1);have lS:∀ w' w'',iU w3 w.heap.size x w'->Below w'.heap.size w' w''->iU w3 w.heap.size x w'':=λw' w'' h hb'=>iU.mk' hP hS (bel h.1 hb');have hSd:∀ w',iU w3 w.heap.size x w'->iU w3 w.heap.size x w'.drew:=λw' h=>iU.mk' hP hS h.1.drew;have dw:∀ w' o',iU w3 w.heap.size x w'->iU w3 w.heap.size x (w'.alloc o'):=λw' o' h=>iU.mk' hP hS (bel h.1 ((Below.refl _ _).alloc (zG _) _));have IU:∀ (w' w'':World) (v:Value),iU w3 w.heap.size x w'->w'.grownBy w'' v.ownBlock->(∀ g,v.ownBlock=some g->w3.heap.size<=g)->iU w3 w.heap.size x w'':=λw' w'' v h hg hv=>iU.mk' hP hS (h.1.grown hg (Nat.le_trans h.1.size (zG _)) hv);obtain ⟨i0,hi,hz0,hz1,hz2⟩:=info_parts Tryz.info3;have MI:=zC hV.1;clear d1 d2;obtain ⟨c2,c3,c4⟩:x.s.n<=1000000000/\x.m<=1000000000/\∀ q ∈ x.r,q.n<=1000000000:=⟨hx.b2,hx.b3,hx.b4⟩;rw [<-HB.out];go_cut [45] from 36 to 45 (λv45 wc=>v45=.bool (!(T.fits x.s x.r (v ++ [(i:Int)])))/\Below w3.heap.size w3 wc)
 case first =>
  go_region_held3 (λw'=>Below w3.heap.size w3 w'/\w'.cell? ⟨w.heap.size,0,none⟩=some (.int .i64 x.nd)/\w'.cell? ⟨w.heap.size,1,none⟩=some (.slice x.A x.n x.c)/\w'.cell? ⟨w.heap.size + 1,0,none⟩=some (.int .i64 x.s.day)/\w'.cell? ⟨w.heap.size + 1,1,none⟩=some (.int .i64 x.s.ag)/\w'.cell? ⟨w.heap.size + 1,2,none⟩=some (.int .i64 x.s.start) /\
  w'.cell? ⟨w.heap.size + 1,3,none⟩=some (.int .i64 x.s.end_)/\w'.cell? ⟨w.heap.size + 1,4,none⟩=some (.int .i64 x.s.aj)/\w'.cell? ⟨w.heap.size + 1,5,none⟩=some (.slice x.s.A x.s.n x.s.c))
   (first | assumption | exact S0 | exact hSd _ (by assumption) | exact dw _ _ (by assumption) | exact dw _ _ (hSd _ S0))
   (first
    | (go_at_call 182;refine (aa7 x.s x.B x.m x.d x.r _ _ _ (v ++ [(i:Int)]) _ (hAx _ ?_).g_ c2 (hAx _ ?_).aN c3 c4 hJ (by omega)).mono ?_;assumption;assumption;rintro e w9 ⟨rfl,hbn⟩;have OJ:=lS _ _ (by assumption) hbn)
    | ((refine pg rfl (.tmp 38) (.tmp 39) 48 rfl w3.heap.size 3 i0 (.int .i64 0) 1 8 Tryz.underlying48 hi hz0 hz1 hz2 rfl (by decide) (.slice (some ⟨w3.heap.size,0,none⟩) 0 0) 0 [] rfl ?_ V vn vc (intCells v) rfl ?_ (oU _) (by simp only [maxLen];omega) (by omega) ?_ ?_;(first | exact mM (heap_alloc_new w3 (.cells #[] 3)) (zG _) | exact mM (bu (heap_alloc_new w3 (.cells #[] 3)) _) (zG _));(refine (kG _ (show iU w3 w.heap.size x _ from ?_)).2;assumption);(refine (And.left (b:=_) (show iU w3 w.heap.size x _ from ?_)).size;assumption));intro v1 w4 hown1 hgrow1 OX;have hS1:=IU _ _ _ (by assumption) hgrow1 (zq (by omega));rw [Nat.zero_add,List.nil_append] at hown1;
        (first | (have hT1:=eX hgrow1 (g:=w3.heap.size + 1) (o:=(.cells #[.int .i64 (i:Int)] 3)) (bI (w3.alloc (.cells #[] 3)) (.cells #[.int .i64 (i:Int)] 3) (w3.heap.size + 1) (World.size_alloc _ _).symm) (Zr (by omega))) | skip))
    | ((refine pg rfl (.tmp 38) (.tmp 39) 48 rfl w3.heap.size 3 i0 (.int .i64 0) 1 8 Tryz.underlying48 hi hz0 hz1 hz2 rfl (by decide) (.slice (some ⟨w3.heap.size + 1,0,none⟩) 0 0) 0 [] rfl ?_ V vn vc (intCells v) rfl ?_ (oU _) (by simp only [maxLen];omega) (by omega) ?_ ?_;(exact mM (bI (w3.alloc (.cells #[.int .i64 (i:Int)] 3)) (.cells #[] 3) _ (World.size_alloc _ _).symm) (by omega));(refine (kG _ (show iU w3 w.heap.size x _ from ?_)).2;assumption);(refine (And.left (b:=_) (show iU w3 w.heap.size x _ from ?_)).size;assumption));intro v1 w4 hown1 hgrow1 OX;have hS1:=IU _ _ _ (by assumption) hgrow1 (zq (by omega));rw [Nat.zero_add,List.nil_append] at hown1;
        (first | (have hT1:=eX hgrow1 (g:=w3.heap.size) (o:=(.cells #[.int .i64 (i:Int)] 3)) (bu (heap_alloc_new w3 (.cells #[.int .i64 (i:Int)] 3)) (.cells #[] 3)) (Zr (by omega))) | skip))
    | (refine pg rfl (.tmp 40) (.tmp 42) 48 rfl w3.heap.size 3 i0 (.int .i64 0) 1 8 Tryz.underlying48 hi hz0 hz1 hz2 rfl (by decide) v1 vn (intCells v) rfl ?_ _ 1 1 [.int .i64 (i:Int)] rfl ?_ (oU [(i:Int)]) (by simp only [maxLen];omega) (by omega) ?_ ?_;(first | exact hown1 | exact World.ownsRow.alloc hown1 _);(first | exact Zt hT1 | exact Zt (heap_alloc_new _ (.cells #[.int .i64 (i:Int)] 3)));(refine (And.left (b:=_) (show iU w3 w.heap.size x _ from ?_)).size;assumption);intro v2 w5 hown2 hgrow2 akq;have hS2:=IU _ _ _ (by assumption) hgrow2 (λg e=>(hown1.lt g e).1);
        obtain ⟨A9,c9,rfl,OG,-⟩:=dh hown2;have hJ:Ints _ A9 (vn + 1) (v ++ [(i:Int)]):=⟨by rw [List.length_append,<-MI.out];rfl,by rw [BF];exact OG⟩))
  all_goals go_wp2_with fail
  all_goals go_meet
  all_goals exact ⟨rfl,OJ.1⟩
 case rest =>
  obtain ⟨rfl,hbc⟩:=hcut;have hb:=bel hb hbc;have hP:=hP.below hbc;have hS:=hS.below hbc;have hQ:=hQ.below hbc;have hwq:=hwq.below (bel bH hbc);clear S0 hAx kG lS hSd dw IU hi hz0 hz1 hz2 hbc bH;cases hf:T.fits x.s x.r (v ++ [(i:Int)])
  ·have HX:=zC (show K.ax x.nd x.l x.s x.r v i a t=(0,20) by unfold K.ax;rw [if_neg HD.out,if_pos hf]);clear hf;go_wp2_with fail;go_ret2
   exact xh HX.out hb
  have HF:=zC (show ¬ (T.fits x.s x.r (v ++ [(i:Int)])=false) by rw [hf];simp);clear hf;obtain ⟨qn,Ey⟩:∃ qn:Nat,q.node=(qn:Int):=⟨q.node.toNat,by omega⟩;obtain ⟨s0,s1,s2,s3,s4,s5⟩:=hS.cells;obtain ⟨q0,q1,q2,q3,q4,q5,q6⟩:=hQ.cells;rw [Ey] at q0;have g0:=ah.cell hP.c0;have g1:=ah.cell hP.c1;have f0:=ah.cell s0;have f1:=ah.cell s1;have f2:=ah.cell s2;have f3:=ah.cell s3;have f4:=ah.cell s4;have f5:=ah.cell s5;have k0:=ah.cell q0;have kV:=hx.below hb;have jP:=hV.below hb;obtain ⟨wt,hwt⟩:=zB (T.weight x.s x.r v);obtain ⟨y,hy⟩:=zB (K.way x.nd x.l a wt qn);have CW:=λj:ah wc=>Ky x.s x.B x.m x.d x.r V vn vc v j.val ((kV.below j.property).g_) c2 ((kV.below j.property).aN) c3 c4 (jP.below j.property) (by omega);have CY:=λj:ah wc=>aby x.nd x.A x.n x.c x.l a qn wt j.val ((kV.below j.property).net) hx.b1 hne ha (by omega);simp only [<-hwt] at CW;simp only [<-hy] at CY;have hyb:=K.iJ x.nd x.l a wt q.node;rw [Ey,<-hy] at hyb;obtain ⟨hy0,hy1⟩:=hyb;have HY:=zC (show K.way x.nd x.l a (T.weight x.s x.r v) (K.req x.r i).node=y by rw [dB.out,Ey,<-hwt,hy]);have TK:=zC Ey;clear hy hwt Ey q0 q1 q2 q3 q4 q5 q6 s0 s1 s2 s3 s4 s5;go_wp2_with fail;refine dU (by kernel_rfl) (by kernel_rfl) ?_;repeat (go_big_quiet_step ((first | (go_at_call 146;exact ah.calls (CW _)) | (go_at_call 181;exact ah.calls (CY _)))))
  refine wpQuiet_nil ?_;rintro w5 ⟨⟨_,aU⟩,rfl⟩;have hb:=bel hb aU;have hS:=hS.below aU;have hQ:=hQ.below aU;have hwq:=hwq.below aU;clear aU CW CY g0 g1 f0 f1 f2 f3 f4 f5 k0 kV jP hP;obtain ⟨s0,s1,s2,s3,s4,s5⟩:=hS.cells;obtain ⟨q0,q1,q2,q3,q4,q5,q6⟩:=hQ.cells;cases h1:decide (y < 0);rotate_left
  ·have HX:=zC (show K.ax x.nd x.l x.s x.r v i a t=(0,4) by
    have hr:K.reach x.nd x.l x.s x.r v a t (K.req x.r i).node=(0,4):=by unfold K.reach;rw [HY.out,if_pos (by have h1:=of_decide_eq_true h1;omega)]
    unfold K.ax;rw [if_neg HD.out,if_neg HF.out,hr,if_pos (by decide)])
   go_wp2_with fail;go_ret2
   exact xh HX.out hb
  have hyp:¬ y < 0:=of_decide_eq_false h1;have hwrap:IntKind.i64.wrap (t + y)=t + y:=IntWalk.i64_in _ (by omega);cases h2:decide (x.s.end_ < t + y);rotate_left
  ·have HX:=zC (show K.ax x.nd x.l x.s x.r v i a t=(0,18) by
    have hr:K.reach x.nd x.l x.s x.r v a t (K.req x.r i).node=(0,18):=by unfold K.reach;rw [HY.out,if_neg (by omega),if_pos (of_decide_eq_true h2)]
    unfold K.ax;rw [if_neg HD.out,if_neg HF.out,hr,if_pos (by decide)])
   go_wp2_with fail;go_ret2
   exact xh HX.out hb
  have h2':¬ x.s.end_ < t + y:=of_decide_eq_false h2;have HR:=zC (show K.reach x.nd x.l x.s x.r v a t (K.req x.r i).node=(t + y,0) by unfold K.reach;rw [HY.out,if_neg (by omega),if_neg h2']);have hy2:0<=y:=by omega
  clear hyp h2';go_wp2_with fail;refine (aa6 q.A q.n q.c q.l (t + y) q.service _ hwq dL).mono ?_;rintro e w7 ⟨rfl,tY⟩;have hb:=bel hb tY;have hS:=hS.below tY;have hQ:=hQ.below tY;clear q0 q1 q2 q3 q4 q5 q6 s0 s1 s2 s3 s4 s5 h1 h2;have xJ:=zC (λh=>H.lM (l:=q.l) (t:=t + y) (s:=q.service) h);obtain ⟨fb,hfb⟩:=zB ((H.fit q.l (t + y) q.service).1);obtain ⟨ok,hok⟩:=zB ((H.fit q.l (t + y) q.service).2);rw [<-hfb,<-hok];have pI:=zC hfb;have aJ:=zC hok;clear hfb hok;cases hko:ok
  ·have HX:=zC (show K.ax x.nd x.l x.s x.r v i a t=(0,19) by unfold K.ax;rw [if_neg HD.out,if_neg HF.out,HR.out,if_neg (by simp),dB.out,if_pos (by rw [<-aJ.out];exact hko)]);clear hko;go_wp2_with fail;go_ret2
   exact xh HX.out hb
  have xM:=zC (show ¬ ((H.fit q.l (t + y) q.service).2=false) by rw [<-aJ.out,hko];simp);obtain ⟨-,-,-,hf1,hf2⟩:=xJ.out (by rw [<-aJ.out];exact hko);rw [<-pI.out] at hf1 hf2;subst hko;have hf0:0<=fb:=by omega
  clear xJ;obtain ⟨q0,q1,q2,q3,q4,q5,q6⟩:=hQ.cells;obtain ⟨s0,s1,s2,s3,s4,s5⟩:=hS.cells;have hwrap:IntKind.i64.wrap (fb + q.service)=fb + q.service:=IntWalk.i64_in _ (by omega);cases h3:decide (x.s.end_ < fb + q.service);rotate_left
  ·have HX:=zC (show K.ax x.nd x.l x.s x.r v i a t=(0,18) by unfold K.ax;rw [if_neg HD.out,if_neg HF.out,HR.out,if_neg (by simp),dB.out,if_neg xM.out,if_pos (by rw [<-pI.out];exact of_decide_eq_true h3)]);go_wp2_with fail;go_ret2
   exact xh HX.out hb
  have HX:=zC (show K.ax x.nd x.l x.s x.r v i a t=(fb,0) by unfold K.ax;rw [if_neg HD.out,if_neg HF.out,HR.out,if_neg (by simp),dB.out,if_neg xM.out,if_neg (by rw [<-pI.out];exact of_decide_eq_false h3),<-pI.out]);go_wp2_with fail;go_ret2
  exact xh HX.out hb
end Go.Proofs.YtippdjmpkafifaaGreat
