import Derived.Test.YtippdjmpkafifaaGreatCR13
import Derived.Test.YtippdjmpkafifaaGreatCR14
import Derived.Test.YtippdjmpkafifaaGreatCR6
import Derived.Test.YtippdjmpkafifaaGreatCR7
set_option maxRecDepth 100000
set_option maxHeartbeats 64000000
namespace Go.Proofs.YtippdjmpkafifaaGreat
open Go.RowKit
def NB (w:World) (bl:List BV):Prop:=∀ y ∈ bl,(0 < y.vn->∀ ad,y.V=some ad->w.heap.size<=ad.block)/\(0 < y.ln->∀ ad,y.LA=some ad->w.heap.size<=ad.block)
theorem NB.snoc {w:World} {bl:List BV} (h:NB w bl) {y:BV} (h1:0 < y.vn->∀ ad,y.V=some ad->w.heap.size<=ad.block) (h2:0 < y.ln->∀ ad,y.LA=some ad->w.heap.size<=ad.block):NB w (bl ++ [y]):=λz hz=>by
 rcases dX.1 hz with hz | hz
 ·exact h z hz
 ·rw [dB.1 hz];exact ⟨h1,h2⟩
def Xn (w w':World) (p:List (Int × List Int × List Lb)) (er:Int) (e:Ending):Prop :=
 (∃ A n c bl,e=.returned (.tuple #[.slice A n c,.int .i64 er])/\iZ w' A n bl/\n<=c/\Ak n bl/\bl.map BV.pr=p/\(∀ ad,A=some ad->w.heap.size<=ad.block)/\NB w bl)/\af w w'
theorem ac1 {w w':World} {er:Int} (hb:af w w'):Xn w w' [] er (.returned (.tuple #[.slice none 0 0,.int .i64 er])) :=
 ⟨⟨none,0,0,[],rfl,⟨⟨rfl,rfl,λh=>absurd h (by omega)⟩,λy h=>by cases h⟩,zG _,⟨by omega,λy h=>by cases h⟩,rfl,(λad e=>(by cases e)),(λy h=>(by cases h))⟩,hb⟩
theorem acF (x:Cs) (w:World) (hx:eu w x) :
  ay 22 #[.agg #[.int .i64 x.nd,.slice x.A x.n x.c],.slice x.SA x.sn x.sc,.slice x.B x.m x.d] w λe w'=>Xn w w' ((K.refute x.nd x.l x.ss x.r).1.map λb=>((b.1:Int),b.2)) (K.refute x.nd x.l x.ss x.r).2 e:=by
 have hN:=Net.new w x.nd x.A x.n x.c;have p0:=hN.c0;have p1:=hN.c1;have b0:af w (w.alloc (.cells #[.int .i64 x.nd,.slice x.A x.n x.c] 24)):=ai.alloc (zG _) _;have CP:=Vg x _ (hx.below b0);go_enter Tryz.func22,Tryz.ntmps22;go_wp2_with fail;refine CP.mono ?_;obtain ⟨ce,hce⟩:=zB ((K.plan x.nd x.l x.ss x.r).2);rintro e w1 ⟨⟨PA,pn,pc,pl,rfl,-,-,-⟩,b1⟩;rw [<-hce];have hN1:=hN.below b1;have hb1:=bel b0 b1;clear p0 p1 b0 b1 hN CP;by_cases hz:ce=0
 ·have HX:=zC (show K.refute x.nd x.l x.ss x.r=([],7) from K.acK (by rw [<-hce];exact hz));have hd:(ce == 0)=true:=by simp [hz]
  have hd2:decide (ce=0)=true:=by simp [hz]
  clear hce hz;go_wp2_with fail;go_ret2
  rw [HX.out];exact ac1 hb1
 by_cases o8:ce=4;rotate_left
 ·have HX:=zC (show K.refute x.nd x.l x.ss x.r=([],ce) by rw [hce] at hz o8 ⊢;exact K.acI hz o8);have hd:(ce == 0)=false:=by simp [hz]
  have hd2:(ce == 4)=false:=by simp [o8]
  clear hce hz o8;go_wp2_with fail;go_ret2
  rw [HX.out];exact ac1 hb1
 subst o8;have HR:=zC (K.acH hce.symm);have aY:=zC (K.acy hce.symm);clear hce hz;have p0:=hN1.c0;have p1:=hN1.c1;go_wp2_with fail;refine (alS x _ (hx.below hb1) aY.out).mono ?_;rintro e w2 ⟨b,mb,gb,rfl,hp2⟩;have o6:x.m<=6:=by rw [hx.bf.1];exact (K.kT aY.out).2.2.2.2
 have uw:x.sn<=4:=by rw [hx.shifts.1.1];exact (K.kT aY.out).2.1
 have eF:=zC hx.shifts.1.1;have aS:=zC hx.bf.1;obtain ⟨az,Iw⟩:=zB (List.replicate x.sn (⟨none,0,0,[]⟩:Sh));rw [<-Iw] at hp2;obtain ⟨G0,hG0⟩:=zB w.heap.size;rw [<-hG0] at hN1;rw [<-hG0];obtain ⟨B1,hB1⟩:=zB w2.heap.size;have ni:=zC (show w.heap.size<=B1 by rw [hB1];exact aN hb1.size hp2.bw.size);clear p0 p1 Iw hG0;go_wp2_with fail;go_loopw [11,38] (λv11 v38 wr=>∃ (s:Nat) (bl:List BV),v38=.int .i64 s/\s<=x.sn/\wr.ownsRow B1 90 3 v11 bl.length (bl.flatMap BV.cells)/\nV wr v11 bl/\NB w bl/\gJ w1 wr b mb gb x (λg=>v11.ownBlock=some g) az/\B1<=wr.heap.size/\bl.length<=1000 * s/\Hid (bl.map BV.pr=K.wZ x.nd x.l x.ss x.r s)) (λ_ v38 _=>x.sn - (intOf v38).toNat)
 case atStart=>exact ⟨0,[],rfl,aW _,kF _ _ _ _,λy hy=>(by cases hy),λy hy=>(by cases hy),hp2.turn (λg h=>(by cases h)),by rw [hB1];exact zG _,aW _,rfl⟩
 case round =>
  clear hp2 hB1;obtain ⟨s,bl,rfl,hs,hown,vF,hnb,hp,hBr,hbl,hcl⟩:=hrel;by_cases hlt:s < x.sn
  ·obtain ⟨sS,hsS⟩:∃ sS,x.ss[s]? = some sS:=⟨_,zF (by rw [<-eF.out];exact hlt)⟩;have j0:decide ((s:Int) < (x.sn:Int))=true:=by simp;omega
   have ku:=zC hsS;clear hsS;obtain ⟨ws,hws⟩:=zB wr;rw [<-hws] at hown vF hp hBr;rw [<-hws];clear hws;obtain ⟨BS,hBS⟩:=zB ws.heap.size;obtain ⟨FE,D9⟩:=zB (K.eH x.nd x.l x.ss x.r s);have Aq:=zC D9;clear D9;go_wp2_with fail;go_loopw [13,43] (λv13 v43 wi=>∃ (k:Nat) (own:List Sh),v43=.int .i64 k/\k<=x.m/\wi.ownsRow BS 48 1 v13 own.length (own.map Sh.val)/\iF wi v13 own/\kY BS own/\(∀ y ∈ own,y.n<=6)/\gJ w1 wi b mb gb x (λg=>u11.ownBlock=some g\/v13.ownBlock=some g) az/\ws.grownBy wi (some mb)/\own.length<=64 * k/\Hid (own.map Sh.l=A.gV FE [] (A.upto x.m k))) (λ_ v43 _=>x.m - (intOf v43).toNat)
   case atStart=>exact ⟨0,[],rfl,aW _,kF _ _ _ _,λy hy=>(by cases hy),λy hy=>(by cases hy),λy hy=>(by cases hy),hp.turn (λg h=>h.elim .inl λe=>(by cases e)),⟨rfl,rfl,rfl,zG _,λ_ _ _=>rfl⟩,aW _,rfl⟩
   case round =>
    obtain ⟨k,own,rfl,hk,hownO,qH,xG,D8,Il,zx,hlO,En⟩:=hrel;obtain ⟨wk,hwk⟩:=zB wr;rw [<-hwk] at hownO qH Il zx;rw [<-hwk];clear hwk;by_cases hkm:k < x.m
    ·have k0:decide ((k:Int) < (x.m:Int))=true:=by simp;omega
     obtain ⟨kk,hkk⟩:=zB (k + 1);have ks:IntKind.i64.wrap ((k:Int) + 1)=(kk:Int):=by rw [dh _ (by omega)];omega
     have CS:=alL x.m o6 kk 0 wk (by omega) (by omega);rw [show ((0:Nat):Int)=0 from rfl] at CS;have HKK:=zC hkk;have hDl:(A.dM x.m kk 0).length<=64:=A.DZ o6 (by omega) (by omega);obtain ⟨D,hD⟩:=zB (A.dM x.m kk 0);rw [<-hD] at CS hDl;have HD:=zC hD;clear hkk hD;go_wp2_with fail;refine CS.mono ?_;rintro e wl ⟨⟨E,m,c,l,rfl,hSl,hmc,iJ,jy,hln⟩,pW⟩;have hml:m<=64:=by rw [hSl.1.1,<-bu (f:=Sh.l),iJ];exact hDl
     have dP:∀ t ∈ l,t.n<=6/\t.l.Pairwise (· < ·)/\∀ i ∈ t.l,0<=i/\i < (x.m:Int):=λt ht=>by
      have h9:t.l ∈ A.dM x.m kk 0:=by rw [<-HD.out,<-iJ];exact List.mem_map_of_mem ht
      obtain ⟨h1,h2,h3⟩:=A.qL.1 h9;have h4:=(hSl.2 t ht).1.1;have:=HKK.out;exact ⟨by omega,h2,λi hi=>by have:=h3 i hi;omega⟩
     have Ii:iT E m u13:=λ_ ad e e2=>by
      have h1:=(gz hownO _ e2).2;have h2:=jy ad e;omega
     have Ir:iF wl u13 l:=λt ht=>⟨hSl.2 t ht,λh0 ad e e2=>by
      have h1:=(gz hownO _ e2).2;have h2:=hln t ht h0 ad e;omega⟩
     have aaF:=own_below hownO pW;have aaL:=qH.below pW;have hpL:=Il.below pW;have hgL:ws.grownBy wl (some mb):=zx.andThen (row':=none) ⟨pW.os,pW.tape,pW.output,pW.size,λq hq _=>pW.block q hq⟩ (λ_ e=>by cases e);have TM:kY BS l:=hln.mono (by rw [hBS];exact zx.size);clear CS hownO qH Il zx jy hln pW;go_wp2_with fail;go_loopw [13,52] (λv13 v52 wj=>∃ (j:Nat) (own':List Sh),v52=.int .i64 j/\j<=m/\Mid w1 ws wj b mb gb x az u11 v13 BS own' E m l/\kY BS own'/\(∀ y ∈ own',y.n<=6)/\own'.length<=own.length + j/\Hid (own'.map Sh.l=A.gV FE [] (A.upto x.m k ++ (l.take j).map Sh.l))) (λ_ v52 _=>m - (intOf v52).toNat)
     case atStart=>exact ⟨0,own,rfl,aW _,⟨aaF,aaL,hpL,hgL,hSl,Ii,Ir⟩,xG,D8,zG _,by show _=_;rw [List.take_zero,List.map_nil,List.append_nil];exact En.out⟩
     case round =>
      clear aaF aaL xG D8 hpL hgL Ii Ir hSl;obtain ⟨j,own',rfl,hj,M,nR,uX,ny,hcI⟩:=hrel;by_cases hjm:j < m
      ·obtain ⟨E2,c2,rfl,hS2,hc2,-⟩:=Df M.row rfl M.ok;obtain ⟨ad,t,rfl,hg,⟨hI,hsc,hs0⟩,hc⟩:=M.sh.at_ hjm;obtain ⟨wj,CG⟩:=zB wr;rw [<-CG] at M hS2 hI hc;rw [<-CG];clear CG;have j0:decide ((j:Int) < (m:Int))=true:=by simp;omega
       have js:IntKind.i64.wrap ((j:Int) + 1)=((j + 1:Nat):Int):=by rw [dh _ (by omega)];omega
       have nC:=zD hg;obtain ⟨h6,hso,hbd⟩:=dP t nC;have Z5:∀ i ∈ t.l,0<=i/\i < (x.r.length:Int):=λi hi=>by have:=hbd i hi;have:=aS.out;omega
       have bA:af wj (wj.alloc (.cells #[.slice t.A t.n t.c] 48)):=ai.alloc (zG _) _;have hG:=aA wj (.cells #[.slice t.A t.n t.c] 48);have CC:=af0 wj.heap.size E2 own'.length c2 own' t.A t.n t.c t.l (wj.alloc (.cells #[.slice t.A t.n t.c] 48)) (hS2.below bA) (by omega) hG (λy hy=>by have:=uX y hy;omega) (hI.below bA) (by omega);have AL:=zC nC;have JP:=zC (And.intro hso Z5);have HG:=zC hg;have uM:=zC ny;have htk:(l.take (j + 1)).map Sh.l=(l.take j).map Sh.l ++ [t.l]:=by rw [List.take_add_one,hg,eG];rfl
       have nY:=zC htk;have aaX:∀ g,(u11.ownBlock=some g\/(Value.slice E2 own'.length c2).ownBlock=some g)->g < wj.heap.size:=λg e=>e.elim (λe=>by have h1:=(gz hown g e).2;have h2:=M.gr.size;omega) (λe=>(gz M.row g e).2);have HXS:=zC aaX;clear hg ny nC hso hbd Z5 htk aaX;go_wp2_with fail;refine CC.mono ?_;rintro e wc ⟨rfl,bc⟩;have M1:=(M.below bA).below bc;have hG1:=au bc hG;have hI1:=(hI.below bA).below bc;have XO:=bel bA bc;have cG:=ah hG1 0 _ rfl;clear CC M hG hI bA bc hS2 hc;obtain ⟨z,hz⟩:=zB ((own'.map Sh.l).any λu=>A.part u t.l);rw [<-hz];have HZ:=zC hz;clear hz;cases z with
       | true =>
        have HN:=zC (A.U8 (ok:=FE) (own:=[]) (L:=A.upto x.m k ++ (l.take j).map Sh.l) (v:=t.l) (.inl (by rw [<-hcI.out];exact HZ.out.symm)));go_wp2_with fail;go_roundw
        case rel=>exact ⟨j + 1,own',by go_num,by omega,M1,nR,uX,by have:=uM.out;omega,by show _=_;rw [nY.out,<-jb,HN.out];exact hcI.out⟩
        case measure=>simp [intOf];omega
       | false =>
        have CB:=afe w1 b mb gb x az s sS t.A t.n t.c t.l wc M1.pl (λg e=>dO (HXS.out g e) XO.size) ku.out hI1 hsc JP.out.1 JP.out.2;have hfe:FE t.l=(K.best x.nd x.l sS x.r t.l).isSome:=by
         rw [Aq.out,Bool.eq_iff_iff,K.Gy M1.pl.ok JP.out.1 JP.out.2,Option.isSome_iff_exists];exact ⟨λ⟨s2,t2,e1,e2⟩=>by rw [ku.out] at e1;injection e1 with e1;subst e1;exact ⟨t2,e2⟩,λ⟨t2,e2⟩=>⟨sS,t2,ku.out,e2⟩⟩
        obtain ⟨T,hT⟩:=zB (K.best x.nd x.l sS x.r t.l);rw [<-hT] at CB hfe;have FD:=zC hfe;clear hT hfe;go_wp2_with fail;refine CB.mono ?_;rintro e wb ⟨⟨u',rfl,hTA⟩,hgb,hpb⟩;have hGb:=(M1.pl.memo.ext hgb).cells _ _ _ _ hG1;have M2:=M1.best hgb hpb;have cGb:=ah hGb 0 _ rfl;clear CB hgb hpb M1 hG1 hI1 cG XO;cases T with
        | some bt =>
         obtain ⟨g,A8,n8,c8,A7,n7,c7,rfl,-⟩:=hTA;have HN:=zC (A.U8 (ok:=FE) (own:=[]) (L:=A.upto x.m k ++ (l.take j).map Sh.l) (v:=t.l) (.inr FD.out));go_wp2_with fail;go_roundw
         case rel=>exact ⟨j + 1,own',by go_num,by omega,M2,nR,uX,by have:=uM.out;omega,by show _=_;rw [nY.out,<-jb,HN.out];exact hcI.out⟩
         case measure=>simp [intOf];omega
        | none =>
         obtain rfl:u'=.pointer none:=hTA;have HN:=zC (A.ab4 (ok:=FE) (own:=[]) (L:=A.upto x.m k ++ (l.take j).map Sh.l) (v:=t.l) (by rw [<-hcI.out];exact HZ.out.symm) FD.out);have hbs:BS<=wb.heap.size:=by have h2:=M2.gr.size;omega
         have bD:af wb (wb.alloc (.cells #[.slice t.A t.n t.c] 48)):=ai.alloc (zG _) _;have M3:=M2.below bD;have MI:=aN hbs bD.size;have hln:own'.length<=1000000:=by have:=uM.out;omega
         clear M2 hGb;go_wp2_with (at_builtin;refine Qj rfl (.tmp 67) (.tmp 69) rfl BS (.slice E2 own'.length c2) own'.length own' rfl M3.row wb.heap.size t rfl (aA wb _) hln MI ?_;intro v' w6 hown6 hgrow6 gy);have M4:=M3.app AL.out hgrow6 gy hown6 hBS;clear M3 hown6 hgrow6 gy bD cGb;go_roundw
         case rel=>exact ⟨j + 1,own' ++ [t],by go_num,by omega,M4,nR.snoc (TM t AL.out),λy hy=>(dX.1 hy).elim (uX y) (λhy=>by rw [dB] at hy;rw [hy];exact h6),by rw [cZ];have:=uM.out;simp;omega,by show _=_;rw [nY.out,<-jb,HN.out,eG,hcI.out];rfl⟩
         case measure=>simp [intOf];omega
      ·have j0:decide ((j:Int) < (m:Int))=false:=by simp;omega
       have H_:l.take j=l:=fD (by have:=M.sh.1.1;omega);have HE:=zC (show own'.map Sh.l=A.gV FE [] (A.upto x.m kk) by rw [hcI.out,H_,iJ,HD.out,HKK.out,A.upto_succ]);have uM:=zC ny;clear H_ ny;go_wp2_with fail;go_roundw
       case rel=>exact ⟨kk,own',rfl,by rw [HKK.out];omega,M.row,M.ok,nR,uX,M.pl,M.gr,by have:=uM.out;have:=HKK.out;omega,HE.out⟩
       case measure=>simp [intOf];have:=HKK.out;omega
    ·have k0:decide ((k:Int) < (x.m:Int))=false:=by simp;omega
     have zy:k=x.m:=by omega
     have HOWN:=zC (show own.map Sh.l=A.own FE x.m by rw [En.out,zy];rfl);obtain ⟨E,c,rfl,G8,hnc,jy⟩:=Df hownO rfl qH;clear zy;have F0:yw w1 wk b mb gb x az u11 B1 bl E own.length own:=⟨hown.kept zx (.inr λe=>(hp.away mb e).2.2.1 rfl),vF.ext (hp.memo.ext zx),Il.turn (λg h=>.inl (.inl h)),G8,λh0 ad e e2=>(by have h1:=(gz hown _ e2).2;have h2:=jy ad e;omega),λt ht=>⟨(qH t ht).1,λh0 ad e e2=>(by have h1:=(gz hown _ e2).2;have h2:=xG t ht h0 ad e;omega)⟩⟩;have Y8:B1<=wk.heap.size:=by have:=zx.size;omega
     have hol:own.length<=384:=by omega
     have PD:=zC (show kY w.heap.size own from xG.mono (by rw [hBS];exact aN ni.out hBr));clear hown vF hp hownO qH Il zx G8 jy xG En hBr;go_wp2_with fail;clear k0;go_loopw [11,75] (λv11 v75 wf=>∃ (j:Nat) (jS:List BV),v75=.int .i64 j/\j<=own.length/\yw w1 wf b mb gb x az v11 B1 jS E own.length own/\NB w jS/\B1<=wf.heap.size/\jS.length=bl.length + j/\Hid (jS.map BV.pr=bl.map BV.pr ++ (own.take j).map λt=>((s:Int),t.l,K.bG x.nd x.l sS x.r t.l))) (λ_ v75 _=>own.length - (intOf v75).toNat)
     case atStart=>exact ⟨0,bl,rfl,aW _,F0,hnb,Y8,rfl,by show _=_;rw [List.take_zero,List.map_nil,List.append_nil]⟩
     case round =>
      clear F0 Y8;obtain ⟨j,jS,rfl,hj,F,hnf,GU,hlb,hcb⟩:=hrel;obtain ⟨wf,hwf⟩:=zB wr;rw [<-hwf] at F GU;rw [<-hwf];clear hwf;by_cases hjn:j < own.length
      ·obtain ⟨gK,t,rfl,hg,⟨hI,hsc,hs0⟩,hc⟩:=F.sh.at_ hjn;obtain ⟨bP,s2,jA,hs2,-,s0,s1,s2',s3,s4,s5⟩:=F.pl.case.shifts.at_ hlt;rw [ku.out] at hs2;injection hs2 with hs2;subst hs2;rw [jA];have hAt:At wf (x.one sS):=F.pl.one (zD ku.out);have SP:∀ w8:World,af w1 w8->(DU G0 x bP s sS) w8:=λw8 hb=>⟨(hN1.below hb).c0,(hN1.below hb).c1,(hb.cell (cell_lt s0)).trans s0,(hb.cell (cell_lt s1)).trans s1,(hb.cell (cell_lt s2')).trans s2',(hb.cell (cell_lt s3)).trans s3,(hb.cell (cell_lt s4)).trans s4,(hb.cell (cell_lt s5)).trans s5⟩;have S0:=SP wf F.pl.bw;have aQ:=SP wf.drew (bel F.pl.bw ai.drew);have lD:af wf wf.drew:=ai.drew;have j0:decide ((j:Int) < (own.length:Int))=true:=by simp;omega
       have js:IntKind.i64.wrap ((j:Int) + 1)=((j + 1:Nat):Int):=by rw [dh _ (by omega)];omega
       have nC:=zD hg;have h6:=D8 t nC;have htk:(own.take (j + 1)).map (λt=>((s:Int),t.l,K.bG x.nd x.l sS x.r t.l))=(own.take j).map (λt=>((s:Int),t.l,K.bG x.nd x.l sS x.r t.l)) ++ [((s:Int),t.l,K.bG x.nd x.l sS x.r t.l)]:=by rw [List.take_add_one,hg,eG];rfl
       have nY:=zC htk;have oK:=zC hlb;have sO:=zC jA;have TU:iT t.A t.n u11:=λh0 ad e=>(F.lk t nC).2 h0 ad e;clear hg htk hlb jA s0 s1 s2' s3 s4 s5;go_upto_region 26 with fail;obtain ⟨k0,k1⟩:=zJ (a:=s) (b:=x.sn) (by omega);have QT:t.n<=1000000000:=by omega
       have hvl:t.l.length<=6:=by rw [<-hI.1];exact h6
       have hln:jS.length<=1000000:=by have:=oK.out;omega
       go_region_held3 (DU G0 x bP s sS)
        (with_reducible first | exact AU | exact DR | exact S9 | exact aQ | exact S0 | fail)
        (first
         | (go_at_call 78;refine (aa' (x.one sS) t.A t.n t.c t.l _ (hAt.below lD) (hI.below lD) hsc QT).mono ?_;rintro e w9 ⟨⟨LA,ln,lc,rfl,BF,BH⟩,b9⟩;have F9:=F.below (bel lD b9);have nK:B1<=w9.heap.size:=aN GU (bel lD b9).size;have a9:af w9 (w9.alloc (.cells #[.int .i64 (s:Int),.slice t.A t.n t.c,.slice LA ln lc] 90)):=ai.alloc (zG _) _;have S9:=SP w9 F9.pl.bw;have DR:=SP _ (F9.below a9).pl.bw;have MQ:iT LA ln u11:=λh0 ad e e2=>(by have h1:=(gz F.row _ e2).2;have h2:=BH ad e;have h3:=lD.size;omega);have hll:ln<=384:=(by have h1:=BF.1;have h2:(K.bG x.nd x.l sS x.r t.l).length<=384:=K.abb hvl;have h3:ln=(K.bG x.nd x.l sS x.r t.l).length:=h1;omega))
         | (refine ad4 rfl (.tmp 79) (.tmp 91) rfl F9.row nK rfl w9.heap.size ⟨s,t.A,t.n,t.c,t.l,LA,ln,lc,K.bG x.nd x.l sS x.r t.l⟩ rfl a9 (aA w9 _) hln ?_;intro v' w10 Cf qF xA;have F10:=(F9.below a9).app ⟨⟨(hI.below (bel lD b9)).below a9,aX.below BF a9⟩,TU,MQ,hsc,h6,hll⟩ qF xA Cf;have AU:=SP w10 F10.pl.bw)
         | fail)
       have agY:B1<=w10.heap.size:=by have h1:=qF.size;have h2:=a9.size;omega
       have ahI:NB w (jS ++ [(⟨s,t.A,t.n,t.c,t.l,LA,ln,lc,K.bG x.nd x.l sS x.r t.l⟩:BV)]):=hnf.snoc (λh0 ad e=>PD.out t nC h0 ad e) (λ_ ad e=>by have h1:=BH ad e;have h2:=F.pl.bw.size;have h3:=hb1.size;have h4:=lD.size;omega);clear F F9 S0 aQ S9 DR AU SP BF BH a9 b9 Cf qF xA lD hAt hc hI;go_wp2_with fail;go_roundw
       case rel=>exact ⟨j + 1,jS ++ [⟨s,t.A,t.n,t.c,t.l,LA,ln,lc,K.bG x.nd x.l sS x.r t.l⟩],by go_num,by omega,F10,ahI,agY,by rw [cZ,oK.out];simp;omega,by show _=_;rw [nY.out,<-jb,<-hcb.out,eG];rfl⟩
       case measure=>simp [intOf];omega
      ·have j0:decide ((j:Int) < (own.length:Int))=false:=by simp;omega
       have ks:IntKind.i64.wrap ((s:Int) + 1)=((s + 1:Nat):Int):=by rw [dh _ (by omega)];omega
       have Ia:own.take j=own:=fD (by omega);have bH:=zC (show jS.map BV.pr=K.wZ x.nd x.l x.ss x.r (s + 1) by
        rw [K.X4,<-hcl.out,hcb.out,Ia,<-aS.out,<-Aq.out,<-HOWN.out,List.map_map];congr 1;refine List.map_congr_left λt _=>?_;show _=((s:Int),t.l,_);rw [ku.out])
       have oK:=zC hlb;clear Ia hlb;go_wp2_with fail;go_roundw
       case rel=>exact ⟨s + 1,jS,by go_num,hlt,F.row,F.ok,hnf,F.pl,GU,by have:=oK.out;omega,bH.out⟩
       case measure=>simp [intOf];omega
  ·have hse:s=x.ss.length:=by have:=eF.out;omega
   have j0:decide ((s:Int) < (x.sn:Int))=false:=by simp;omega
   obtain ⟨A9,c9,rfl,jL,rD⟩:=fP hown;have TN:bl.length<=c9:=by
    obtain ⟨-,⟨e,e0⟩ | ⟨g',cap,cur,e,-,-,h9,-⟩⟩:=hown
    ·rw [e0];exact aW _
    ·injection e with e1 e2 e3;rw [e3];exact h9
   have HB:=zC (show bl.map BV.pr=(K.refute x.nd x.l x.ss x.r).1.map λb=>((b.1:Int),b.2) by rw [HR.out,K.X3,<-hse];exact hcl.out);have HX:=zC (show (K.refute x.nd x.l x.ss x.r).2=0 by rw [HR.out]);have hbn:bl.length<=1000000000:=by omega
   clear hse hown;go_wp2_with fail;go_ret2
   rw [HX.out];exact ⟨⟨A9,bl.length,c9,bl,rfl,⟨⟨rfl,jL⟩,λy hy=>(vF y hy).1⟩,TN,⟨hbn,λy hy=>by obtain ⟨-,-,-,h1,h2,h3⟩:=vF y hy;exact ⟨h1,by omega,by omega⟩⟩,HB.out,λad e=>aN ni.out (rD _ (by rw [e];rfl)).1,hnb⟩,bel hb1 hp.bw⟩
theorem anN (x:Cs) (w:World) (hx:eu w x) :
  ay 22 #[.agg #[.int .i64 x.nd,.slice x.A x.n x.c],.slice x.SA x.sn x.sc,.slice x.B x.m x.d] w λe w'=>aeO w w' ((K.refute x.nd x.l x.ss x.r).1.map λb=>((b.1:Int),b.2)) (K.refute x.nd x.l x.ss x.r).2 e :=
 (acF x w hx).mono λ_ _ ⟨⟨A,n,c,bl,h1,h2,h3,h4,h5,_,_⟩,hb⟩=>⟨⟨A,n,c,bl,h1,h2,h3,h4,h5⟩,hb⟩
namespace K
section
variable {nd : Int} {l : List Ro} {ss : List S} {r : List Q} {x : Q}
theorem adY (k m:Nat):kU nd l ss r x (k + 1) m=(iC nd l ss r x [] m 0).or (kU nd l ss r x k (m + 1)):=by
 rw [kU];cases iC nd l ss r x [] m 0 <;> rfl
theorem XI (h1:¬ ((plan nd l ss r).2 ≠ 0\/jw nd x=false)) (h2:¬ 6<=r.length) (h3:(plan nd l ss (r ++ [x])).2 ≠ 0):(plan nd l ss (r ++ [x])).2=4/\∃ v,kU nd l ss r x (r.length + 1) 0=some v/\dL nd l ss r x=(some r,⟨false,[],v,(refute nd l ss (dD r v x)).1.map λb=>((b.1:Int),b.2)⟩,0):=by
 rcases ask_cases (nd:=nd) (l:=l) (ss:=ss) (r:=r) (x:=x) with ⟨e,g1,g2⟩ | ⟨-,⟨g4,-⟩ | ⟨g4,v,g5,g6⟩⟩
 ·exfalso;unfold dL at g2;rw [if_neg h1,if_neg h2,if_neg h3] at g2;split at g2
  ·injection g2 with g3;cases g3
  ·injection g2 with g3;cases g3
 ·exact absurd g4 h3
 ·exact ⟨g4,v,g5,g6⟩
end
end K
theorem NQ.mono {B B':Nat} {L:List Q} (h:NQ B L) (hB:B'<=B):NQ B' L:=λq hq h0 ad e=>aN hB (h q hq h0 ad e)
theorem VE {w:World} {A:aj} {n:Nat} {L M:List S} (h:Shifts w A n L) {A':aj} {n':Nat} {w':World} (h':Shifts w' A' n' M) (e:L.map S.bare=M.map S.bare) {N:Nat} (hM:∀ s ∈ M,s.n<=N):∀ s ∈ L,s.n<=N:=λs hs=>by
 have h1:=(h.2 s hs).1;have h2:s.bare ∈ M.map S.bare:=by rw [<-e];exact fE.2 ⟨s,hs,rfl⟩
 obtain ⟨s',h3,h4⟩:=fE.1 h2;have h5:s'.l=s.l:=show s'.bare.l=s.bare.l by rw [h4]
 have h6:=(h'.2 s' h3).1;have:=hM s' h3;rw [h5] at h6;omega
structure AV where
 acc:Bool
 PA:Option Addr
 pn:Nat
 pc:Nat
 ts:List TV
 VA:Option Addr
 vn:Nat
 vc:Nat
 v:List Int
 RA:Option Addr
 rn:Nat
 rc:Nat
 bl:List BV
abbrev pM (a:AV) (b:Bool):Value:=.agg #[.bool b,.slice a.PA a.pn a.pc,.slice a.VA a.vn a.vc,.slice a.RA a.rn a.rc]
def AV.an (a:AV):K.An:=⟨a.acc,a.ts.map TV.pr,a.v,a.bl.map BV.pr⟩
structure jZ (w:World) (a:AV):Prop where
 t:ja w a.PA a.pn a.ts
 v:Ints w a.VA a.vn a.v
 b:iZ w a.RA a.rn a.bl
theorem jZ.below {w w':World} {a:AV} (h:jZ w a) (hb:af w w'):jZ w' a:=⟨h.t.below hb,h.v.below hb,h.b.below hb⟩
structure oI (a:AV):Prop where
 ft:Am a.pn a.ts
 fv:a.vn<=1000
 fb:Ak a.rn a.bl
def AV.zero:AV:=⟨false,none,0,0,[],none,0,0,[],none,0,0,[]⟩
theorem E8 (w:World):jZ w AV.zero:=⟨⟨⟨rfl,rfl,λh=>absurd h (by decide)⟩,λy h=>(by cases h)⟩,iQ w,⟨⟨rfl,rfl,λh=>absurd h (by decide)⟩,λy h=>(by cases h)⟩⟩
theorem Fa:oI AV.zero:=⟨⟨by decide,λy h=>(by cases h)⟩,by decide,⟨by decide,λy h=>(by cases h)⟩⟩
structure yl (B:Nat) (a:AV):Prop where
 p:∀ ad,a.PA=some ad->B<=ad.block
 t:∀ y ∈ a.ts,(0 < y.n->∀ ad,y.A=some ad->B<=ad.block)/\(0 < y.n'->∀ ad,y.A'=some ad->B<=ad.block)
 v:∀ ad,a.VA=some ad->B<=ad.block
 r:∀ ad,a.RA=some ad->B<=ad.block
 b:∀ y ∈ a.bl,(0 < y.vn->∀ ad,y.V=some ad->B<=ad.block)/\(0 < y.ln->∀ ad,y.LA=some ad->B<=ad.block)
theorem E_ (B:Nat):yl B AV.zero:=⟨λad e=>(by cases e),λy h=>(by cases h),λad e=>(by cases e),λad e=>(by cases e),λy h=>(by cases h)⟩
structure pg (B:Nat) (x:Cs):Prop where
 n:0 < x.n->∀ ad,x.A=some ad->B<=ad.block
 s:∀ ad,x.SA=some ad->B<=ad.block
 r:∀ s ∈ x.ss,0 < s.n->∀ ad,s.A=some ad->B<=ad.block
 q:∀ ad,x.B=some ad->B<=ad.block
 w:NQ B x.r
def Cs.zero:Cs:=⟨0,none,0,0,[],none,0,0,[],none,0,0,[]⟩
def Aj (w:World) (x x':Cs) (o:Option (List Q)):Prop:=match o with
 | none=>x'=Cs.zero
 | some r=>x'.nd=x.nd/\x'.l=x.l/\x'.n=x.n/\x'.sn=x.sn/\eu w x'/\x'.ss.map S.bare=x.ss.map S.bare/\x'.r.map Q.bare=r.map Q.bare
def W9 (w w':World) (x:Cs) (R:Option (List Q) × K.An × Int) (e:Ending):Prop :=
 (∃ (x':Cs) (a:AV),e=.returned (.tuple #[.agg #[.int .i64 x'.nd,.slice x'.A x'.n x'.c,.slice x'.SA x'.sn x'.sc,.slice x'.B x'.m x'.d],.agg #[.bool a.acc,.slice a.PA a.pn a.pc,.slice a.VA a.vn a.vc,.slice a.RA a.rn a.rc],.int .i64 R.2.2])/\jZ w' a/\oI a/\a.an=R.2.1/\Aj w' x x' R.1/\yl w.heap.size a/\pg w.heap.size x')/\af w w'
theorem Vo {w w':World} {x:Cs} {R:Option (List Q) × K.An × Int} {er:Int} (h:R=(none,K.An.zero,er)) (hb:af w w'):W9 w w' x R (.returned (.tuple #[.agg #[.int .i64 0,.slice none 0 0,.slice none 0 0,.slice none 0 0],.agg #[.bool false,.slice none 0 0,.slice none 0 0,.slice none 0 0],.int .i64 er])):=by
 subst h;exact ⟨⟨Cs.zero,AV.zero,rfl,E8 w',Fa,rfl,rfl,E_ _,⟨λ_ ad e=>(by cases e),λad e=>(by cases e),λs h=>(by cases h),λad e=>(by cases e),λq h=>(by cases h)⟩⟩,hb⟩
theorem aX.sets {α:Type} {f:α->List Value} {s:Nat} {w:World} {A:aj} {n:Nat} {l:List α} (h:aX f s w A n l) (M:List (Addr × Value)) (hM:0 < n->∀ ad,A=some ad->∀ p ∈ M,p.1.block ≠ ad.block):aX f s (Sets w M) A n l:=⟨h.1,h.2.sets M hM⟩
theorem ja.sets {w:World} {A:aj} {n:Nat} {l:List TV} (h:ja w A n l) (M:List (Addr × Value)) {B:Nat} (hA:∀ ad,A=some ad->B<=ad.block) (hl:∀ y ∈ l,(0 < y.n->∀ ad,y.A=some ad->B<=ad.block)/\(0 < y.n'->∀ ad,y.A'=some ad->B<=ad.block)) (hM:∀ p ∈ M,p.1.block < B):ja (Sets w M) A n l :=
 ⟨aX.sets h.1 M (λ_ ad e p hp=>by have:=hA ad e;have:=hM p hp;omega),λy hy=>⟨(h.2 y hy).1.sets M (λh0 ad e p hp=>by have:=(hl y hy).1 h0 ad e;have:=hM p hp;omega),(h.2 y hy).2.sets M (λh0 ad e p hp=>by have:=(hl y hy).2 h0 ad e;have:=hM p hp;omega)⟩⟩
theorem iZ.sets {w:World} {A:aj} {n:Nat} {l:List BV} (h:iZ w A n l) (M:List (Addr × Value)) {B:Nat} (hA:∀ ad,A=some ad->B<=ad.block) (hl:∀ y ∈ l,(0 < y.vn->∀ ad,y.V=some ad->B<=ad.block)/\(0 < y.ln->∀ ad,y.LA=some ad->B<=ad.block)) (hM:∀ p ∈ M,p.1.block < B):iZ (Sets w M) A n l :=
 ⟨aX.sets h.1 M (λ_ ad e p hp=>by have:=hA ad e;have:=hM p hp;omega),λy hy=>⟨(h.2 y hy).1.sets M (λh0 ad e p hp=>by have:=(hl y hy).1 h0 ad e;have:=hM p hp;omega),aX.sets (h.2 y hy).2 M (λh0 ad e p hp=>by have:=(hl y hy).2 h0 ad e;have:=hM p hp;omega)⟩⟩
theorem Shifts.sets {w:World} {A:aj} {n:Nat} {l:List S} (h:Shifts w A n l) (M:List (Addr × Value)) {B:Nat} (hA:∀ ad,A=some ad->B<=ad.block) (hl:∀ s ∈ l,0 < s.n->∀ ad,s.A=some ad->B<=ad.block) (hM:∀ p ∈ M,p.1.block < B):Shifts (Sets w M) A n l :=
 ⟨aX.sets h.1 M (λ_ ad e p hp=>by have:=hA ad e;have:=hM p hp;omega),λy hy=>(h.2 y hy).sets M (λh0 ad e p hp=>by have:=hl y hy h0 ad e;have:=hM p hp;omega)⟩
theorem dm.sets {w:World} {A:aj} {n:Nat} {l:List Q} (h:dm w A n l) (M:List (Addr × Value)) {B:Nat} (hA:∀ ad,A=some ad->B<=ad.block) (hl:NQ B l) (hM:∀ p ∈ M,p.1.block < B):dm (Sets w M) A n l :=
 ⟨h.1,h.2.1.sets M (λ_ ad e p hp=>by have:=hA ad e;have:=hM p hp;omega),λq hq=>⟨(h.2.2 q hq).1,(h.2.2 q hq).2.sets M (λh0 ad e p hp=>by have:=hl q hq h0 ad e;have:=hM p hp;omega)⟩⟩
theorem dm.take {w:World} {A:aj} {n m:Nat} {l:List Q} (h:dm w A n l) (hm:m<=n):dm w A m (l.take m):=by
 obtain ⟨h1,h2,h3⟩:=h;refine ⟨by rw [List.length_take];omega,?_,λq hq=>h3 q (List.mem_of_mem_take hq)⟩;refine ⟨by rw [Vm,List.length_take];rw [Nat.min_eq_left (by omega)],λh0=>?_⟩;obtain ⟨ad,e,hc⟩:=h2.2 (by omega);refine ⟨ad,e,λj u hu=>hc j u ?_⟩;have e2:rY l=rY (l.take m) ++ rY (l.drop m):=by
  rw [Ac,Ac,Ac,<-List.flatMap_append,List.take_append_drop]
 rw [e2,nJ (zE.1 hu).1];exact hu
theorem NQ.take {B:Nat} {l:List Q} (h:NQ B l) (m:Nat):NQ B (l.take m):=λq hq=>h q (List.mem_of_mem_take hq)
theorem vW {w:World} {g h:Nat} {x0 x1 x2 x3 u0 u1 u2 u3:Value} {t t':TypeId} (hg:w.heap[g]? = some (.cells #[x0,x1,x2,x3] t (0,0))) (hh:w.heap[h]? = some (.cells #[u0,u1,u2,u3] t' (0,0))) (hne:g ≠ h) (y0 y1 y2 y3 z0 z1 z2 z3:Value) :
  (Sets w [(⟨g,0,none⟩,y0),(⟨g,1,none⟩,y1),(⟨g,2,none⟩,y2),(⟨g,3,none⟩,y3),(⟨h,0,none⟩,z0),(⟨h,1,none⟩,z1),(⟨h,2,none⟩,z2),(⟨h,3,none⟩,z3)]).heap[g]? = some (.cells #[y0,y1,y2,y3] t (0,0)) /\
  (Sets w [(⟨g,0,none⟩,y0),(⟨g,1,none⟩,y1),(⟨g,2,none⟩,y2),(⟨g,3,none⟩,y3),(⟨h,0,none⟩,z0),(⟨h,1,none⟩,z1),(⟨h,2,none⟩,z2),(⟨h,3,none⟩,z3)]).heap[h]? = some (.cells #[z0,z1,z2,z3] t' (0,0)):=by
 obtain ⟨wy,hwy⟩:=zB (Sets w [(⟨g,0,none⟩,y0),(⟨g,1,none⟩,y1),(⟨g,2,none⟩,y2),(⟨g,3,none⟩,y3)]);have h1:wy.heap[g]? = some (.cells #[y0,y1,y2,y3] t (0,0)):=by rw [hwy];exact Ot hg _ _ _ _
 have h2:wy.heap[h]? = some (.cells #[u0,u1,u2,u3] t' (0,0)):=by
  rw [hwy];exact (Sets.other _ w h (λp hp=>by rw [Dt hp];exact hne)).trans hh
 have e:Sets w [(⟨g,0,none⟩,y0),(⟨g,1,none⟩,y1),(⟨g,2,none⟩,y2),(⟨g,3,none⟩,y3),(⟨h,0,none⟩,z0),(⟨h,1,none⟩,z1),(⟨h,2,none⟩,z2),(⟨h,3,none⟩,z3)] = Sets wy [(⟨h,0,none⟩,z0),(⟨h,1,none⟩,z1),(⟨h,2,none⟩,z2),(⟨h,3,none⟩,z3)]:=by rw [hwy];simp only [Sets]
 rw [e];exact ⟨(Sets.other _ wy g (λp hp=>by rw [Dt hp];exact hne.symm)).trans h1,Ot h2 _ _ _ _⟩
theorem su {g h:Nat} {y0 y1 y2 y3 z0 z1 z2 z3:Value} {p:Addr × Value} (hp:p ∈ [((⟨g,0,none⟩:Addr),y0),(⟨g,1,none⟩,y1),(⟨g,2,none⟩,y2),(⟨g,3,none⟩,y3),(⟨h,0,none⟩,z0),(⟨h,1,none⟩,z1),(⟨h,2,none⟩,z2),(⟨h,3,none⟩,z3)]):p.1.block=g\/p.1.block=h:=by
 simp only [dw,List.not_mem_nil,or_false] at hp;rcases hp with rfl | rfl | rfl | rfl | rfl | rfl | rfl | rfl
 ·exact .inl rfl
 ·exact .inl rfl
 ·exact .inl rfl
 ·exact .inl rfl
 ·exact .inr rfl
 ·exact .inr rfl
 ·exact .inr rfl
 ·exact .inr rfl
theorem Gn (tmps:Array Value) (wz:World) (a b:Nat) (y0 y1 y2 y3 z0 z1 z2 z3:Value) (er:Int) (h4:tmps.getD 4 undef=.pointer (some ⟨a,0,none⟩)) (h5:tmps.getD 5 undef=.pointer (some ⟨b,0,none⟩)) (h6:tmps.getD 6 undef=.int .i64 er)
  (ha:wz.heap[a]? = some (.cells #[y0,y1,y2,y3] 44 (0,0))) (hb:wz.heap[b]? = some (.cells #[z0,z1,z2,z3] 50 (0,0))) :
  (results Tryz.f33 tmps).run Tryz.prog wz=.ok (.tuple #[.agg #[y0,y1,y2,y3],.agg #[z0,z1,z2,z3],.int .i64 er]) wz:=by
 have c0:=ah ha 0 y0 rfl;have c1:=ah ha 1 y1 rfl;have c2:=ah ha 2 y2 rfl;have c3:=ah ha 3 y3 rfl;have d0:=ah hb 0 z0 rfl;have d1:=ah hb 1 z1 rfl;have d2:=ah hb 2 z2 rfl;have d3:=ah hb 3 z3 rfl;rw [acU (fn:=Tryz.f33) rfl,h4,h5,h6];simp [go_sem,c0,c1,c2,c3,d0,d1,d2,d3]
theorem XH (x:Cs) (q:Q) (w:World) (hx:lI w x q) (zS:x.n<=1000000) (hxs:x.sn<=1000000) (hxr:∀ s ∈ x.ss,s.n<=1000000) :
  ay 33 #[lm x,iL q] w λe w'=>W9 w w' x (K.dL x.nd x.l x.ss x.r q) e:=by
 obtain ⟨w0,hw0⟩:=zB (w.alloc (.cells #[.int .i64 x.nd,.slice x.A x.n x.c,.slice x.SA x.sn x.sc,.slice x.B x.m x.d] 44));have z0:w0.heap.size=w.heap.size + 1:=by rw [hw0];exact aF _ _
 have b0:=aH hw0;have hN0:iY w0 w.heap.size x:=by rw [hw0];exact iY.new _ _
 obtain ⟨w1,hw1⟩:=zB (w0.alloc (.cells #[.int .i64 q.node,.int .i64 q.room,.int .i64 q.a_,.int .i64 q.service,.int .i64 q.aI,.int .i64 q.aP,.slice q.A q.n q.c] 47));have z1:w1.heap.size=w.heap.size + 1 + 1:=by rw [hw1,aF,z0]
 have b1:=aH hw1;have hB1:dV w1 (w.heap.size + 1) q:=by rw [hw1,<-z0];exact dV.new _ _
 obtain ⟨w2,hw2⟩:=zB (w1.alloc (.cells #[.int .i64 0,.slice none 0 0,.slice none 0 0,.slice none 0 0] 44));have z2:w2.heap.size=w.heap.size + 1 + 1 + 1:=by rw [hw2,aF,z1]
 have b2:=aH hw2;have hA2:w2.heap[w.heap.size + 1 + 1]? = some (.cells #[.int .i64 0,.slice none 0 0,.slice none 0 0,.slice none 0 0] 44 (0,0)):=by rw [hw2,<-z1];exact aA _ _
 obtain ⟨w3,hw3⟩:=zB (w2.alloc (.cells #[.bool false,.slice none 0 0,.slice none 0 0,.slice none 0 0] 50));have z3:w3.heap.size=w.heap.size + 1 + 1 + 1 + 1:=by rw [hw3,aF,z2]
 have b3:=aH hw3;have hA3:w3.heap[w.heap.size + 1 + 1 + 1]? = some (.cells #[.bool false,.slice none 0 0,.slice none 0 0,.slice none 0 0] 50 (0,0)):=by rw [hw3,<-z2];exact aA _ _
 have bQ:=bel b2 b3;have b13:=bel b1 bQ;have hb3:=bel b0 b13;have h03:=hb3.size;have aC:=zC (show ∀ w',af w3 w'->(pK w x q) w' from λw' h=>BQ.mk' ((hN0.below b13).below h) ((hB1.below bQ).below h));have sU:=zC (show ∀ w',af w3 w'->w'.heap[w.heap.size + 1 + 1]? = some (.cells #[.int .i64 0,.slice none 0 0,.slice none 0 0,.slice none 0 0] 44 (0,0))/\w'.heap[w.heap.size + 1 + 1 + 1]? = some (.cells #[.bool false,.slice none 0 0,.slice none 0 0,.slice none 0 0] 50 (0,0)) from λw' h=>⟨au h (au b3 hA2),au h hA3⟩);have hx3:=hx.below hb3;have aS:=zC hx.cs.bf.1;have Ig:=hx.m;have CP:=Vg x w3 hx3.cs;obtain ⟨R,hR⟩:=zB (K.dL x.nd x.l x.ss x.r q);have HR:=zC hR;obtain ⟨e1,he1⟩:=zB ((K.plan x.nd x.l x.ss x.r).2);have Fv:=zC he1;obtain ⟨p0,p1,p2,p3,c0,c1,c2,c3,c4,c5,c6⟩:=aC.out w3 ai;rw [<-hR];go_enter Tryz.func33,Tryz.ntmps33;rw [hw3,hw2,hw1,hw0] at p0 p1 p2 p3;go_wp2_with fail;rw [<-hw0,<-hw1,<-hw2,<-hw3];clear hw0 hw1 hw2 hw3 z0 z1 z2 b0 b1 b2 b3 bQ b13 hN0 hB1 hA2 hA3 p0 p1 p2 p3 c0 c1 c2 c3 c4 c5 c6 hR;refine CP.mono ?_;rintro e w4 ⟨⟨PA,pn,pc,pl,rfl,-,-,-⟩,b4⟩;rw [<-he1];clear CP he1;have hb4:=bel hb3 b4;by_cases h1:e1=0;rotate_left
 ·have HX:=zC (show R=(none,K.An.zero,1) by rw [HR.out];unfold K.dL;rw [if_pos (.inl (by rw [<-Fv.out];exact h1))]);have d1:(e1 != 0)=true:=by simp [bne,h1]
  obtain ⟨hz2,hz3⟩:=sU.out w4 b4;have f2:=b_ hz2;have f3:=b_ hz3;obtain ⟨y0,y1,y2,y3⟩:=gX hz2;obtain ⟨v0,v1,v2,v3⟩:=gX hz3;go_wp2_with fail;obtain ⟨Ms,hMs⟩:∃ Ms:List (Addr × Value),Ms=[(⟨w.heap.size + 1 + 1,0,none⟩,.int .i64 0),(⟨w.heap.size + 1 + 1,1,none⟩,.slice none 0 0),(⟨w.heap.size + 1 + 1,2,none⟩,.slice none 0 0),(⟨w.heap.size + 1 + 1,3,none⟩,.slice none 0 0),(⟨w.heap.size + 1 + 1 + 1,0,none⟩,.bool false),(⟨w.heap.size + 1 + 1 + 1,1,none⟩,.slice none 0 0),(⟨w.heap.size + 1 + 1 + 1,2,none⟩,.slice none 0 0),(⟨w.heap.size + 1 + 1 + 1,3,none⟩,.slice none 0 0)]:=⟨_,rfl⟩;have iW:∀ p ∈ Ms,p.1.block=w.heap.size + 1 + 1\/p.1.block=w.heap.size + 1 + 1 + 1:=λp hp=>by rw [hMs] at hp;exact su hp
  obtain ⟨wz,hwz⟩:=zB (Sets w4 Ms);have eP:=vW hz2 hz3 (by omega) (.int .i64 0) (.slice none 0 0) (.slice none 0 0) (.slice none 0 0) (.bool false) (.slice none 0 0) (.slice none 0 0) (.slice none 0 0);rw [<-hMs,<-hwz] at eP;have hbz:af w wz:=by rw [hwz];exact hb4.trans (Sets.below Ms _ _ ai (λp hp=>by rcases iW p hp with e | e <;> rw [e] <;> omega))
  have iP:=hwz;simp only [hMs,Sets] at iP;rw [<-iP];refine jc (v:=.tuple #[.agg #[.int .i64 0,.slice none 0 0,.slice none 0 0,.slice none 0 0],.agg #[.bool false,.slice none 0 0,.slice none 0 0,.slice none 0 0],.int .i64 1]) (Gn _ wz (w.heap.size + 1 + 1) (w.heap.size + 1 + 1 + 1) (.int .i64 0) (.slice none 0 0) (.slice none 0 0) (.slice none 0 0) (.bool false) (.slice none 0 0) (.slice none 0 0) (.slice none 0 0) 1 rfl rfl rfl eP.1 eP.2) rfl ?_;exact Vo HX.out hbz
 have d1:(e1 != 0)=false:=by simp [h1]
 have d0:decide (e1=0)=true:=by simp [h1]
 obtain ⟨p0,p1,p2,p3,c0,c1,c2,c3,c4,c5,c6⟩:=aC.out _ b4;have CF:=YQ x.nd x.A x.n x.c q w4 (hx3.below b4).req (by have:=hx.q;omega);obtain ⟨z,hz⟩:=zB (K.jw x.nd q);rw [<-hz] at CF;have HZ:=zC hz;clear hz;go_wp2_with fail;refine CF.mono ?_;rintro e w5 ⟨rfl,b5⟩;clear CF d0 d1;clear p0 p1 p2 p3 c0 c1 c2 c3 c4 c5 c6;have bJ:=bel b4 b5;have hb5:=bel hb3 bJ;cases z
 ·have HX:=zC (show R=(none,K.An.zero,1) by rw [HR.out];unfold K.dL;rw [if_pos (.inr HZ.out.symm)]);obtain ⟨hz2,hz3⟩:=sU.out _ bJ;have f2:=b_ hz2;have f3:=b_ hz3;obtain ⟨y0,y1,y2,y3⟩:=gX hz2;obtain ⟨v0,v1,v2,v3⟩:=gX hz3;go_wp2_with fail;obtain ⟨Ms,hMs⟩:∃ Ms:List (Addr × Value),Ms=[(⟨w.heap.size + 1 + 1,0,none⟩,.int .i64 0),(⟨w.heap.size + 1 + 1,1,none⟩,.slice none 0 0),(⟨w.heap.size + 1 + 1,2,none⟩,.slice none 0 0),(⟨w.heap.size + 1 + 1,3,none⟩,.slice none 0 0),(⟨w.heap.size + 1 + 1 + 1,0,none⟩,.bool false),(⟨w.heap.size + 1 + 1 + 1,1,none⟩,.slice none 0 0),(⟨w.heap.size + 1 + 1 + 1,2,none⟩,.slice none 0 0),(⟨w.heap.size + 1 + 1 + 1,3,none⟩,.slice none 0 0)]:=⟨_,rfl⟩;have iW:∀ p ∈ Ms,p.1.block=w.heap.size + 1 + 1\/p.1.block=w.heap.size + 1 + 1 + 1:=λp hp=>by rw [hMs] at hp;exact su hp
  obtain ⟨wz,hwz⟩:=zB (Sets w5 Ms);have eP:=vW hz2 hz3 (by omega) (.int .i64 0) (.slice none 0 0) (.slice none 0 0) (.slice none 0 0) (.bool false) (.slice none 0 0) (.slice none 0 0) (.slice none 0 0);rw [<-hMs,<-hwz] at eP;have hbz:af w wz:=by rw [hwz];exact hb5.trans (Sets.below Ms _ _ ai (λp hp=>by rcases iW p hp with e | e <;> rw [e] <;> omega))
  have iP:=hwz;simp only [hMs,Sets] at iP;rw [<-iP];refine jc (v:=.tuple #[.agg #[.int .i64 0,.slice none 0 0,.slice none 0 0,.slice none 0 0],.agg #[.bool false,.slice none 0 0,.slice none 0 0,.slice none 0 0],.int .i64 1]) (Gn _ wz (w.heap.size + 1 + 1) (w.heap.size + 1 + 1 + 1) (.int .i64 0) (.slice none 0 0) (.slice none 0 0) (.slice none 0 0) (.bool false) (.slice none 0 0) (.slice none 0 0) (.slice none 0 0) 1 rfl rfl rfl eP.1 eP.2) rfl ?_;exact Vo HX.out hbz
 have PK:=zC (show (K.plan x.nd x.l x.ss x.r).2=0 by rw [<-Fv.out];exact h1);have iq:=zC (show ¬ ((K.plan x.nd x.l x.ss x.r).2 ≠ 0\/K.jw x.nd q=false) from λh=>h.elim (λh=>h PK.out) (λh=>by rw [<-HZ.out] at h;cases h));by_cases h6:6<=x.m
 ·have HX:=zC (show R=(none,K.An.zero,6) by rw [HR.out];unfold K.dL;rw [if_neg iq.out,if_pos (by rw [<-aS.out];exact h6)]);have d1:decide ((6:Int)<=(x.m:Int))=true:=by simp;omega
  have d2:decide (6<=x.m)=true:=by simp;omega
  obtain ⟨p0,p1,p2,p3,c0,c1,c2,c3,c4,c5,c6⟩:=aC.out _ bJ;obtain ⟨hz2,hz3⟩:=sU.out _ bJ;have f2:=b_ hz2;have f3:=b_ hz3;obtain ⟨y0,y1,y2,y3⟩:=gX hz2;obtain ⟨v0,v1,v2,v3⟩:=gX hz3;go_wp2_with fail;obtain ⟨Ms,hMs⟩:∃ Ms:List (Addr × Value),Ms=[(⟨w.heap.size + 1 + 1,0,none⟩,.int .i64 0),(⟨w.heap.size + 1 + 1,1,none⟩,.slice none 0 0),(⟨w.heap.size + 1 + 1,2,none⟩,.slice none 0 0),(⟨w.heap.size + 1 + 1,3,none⟩,.slice none 0 0),(⟨w.heap.size + 1 + 1 + 1,0,none⟩,.bool false),(⟨w.heap.size + 1 + 1 + 1,1,none⟩,.slice none 0 0),(⟨w.heap.size + 1 + 1 + 1,2,none⟩,.slice none 0 0),(⟨w.heap.size + 1 + 1 + 1,3,none⟩,.slice none 0 0)]:=⟨_,rfl⟩;have iW:∀ p ∈ Ms,p.1.block=w.heap.size + 1 + 1\/p.1.block=w.heap.size + 1 + 1 + 1:=λp hp=>by rw [hMs] at hp;exact su hp
  obtain ⟨wz,hwz⟩:=zB (Sets w5 Ms);have eP:=vW hz2 hz3 (by omega) (.int .i64 0) (.slice none 0 0) (.slice none 0 0) (.slice none 0 0) (.bool false) (.slice none 0 0) (.slice none 0 0) (.slice none 0 0);rw [<-hMs,<-hwz] at eP;have hbz:af w wz:=by rw [hwz];exact hb5.trans (Sets.below Ms _ _ ai (λp hp=>by rcases iW p hp with e | e <;> rw [e] <;> omega))
  have iP:=hwz;simp only [hMs,Sets] at iP;rw [<-iP];refine jc (v:=.tuple #[.agg #[.int .i64 0,.slice none 0 0,.slice none 0 0,.slice none 0 0],.agg #[.bool false,.slice none 0 0,.slice none 0 0,.slice none 0 0],.int .i64 6]) (Gn _ wz (w.heap.size + 1 + 1) (w.heap.size + 1 + 1 + 1) (.int .i64 0) (.slice none 0 0) (.slice none 0 0) (.slice none 0 0) (.bool false) (.slice none 0 0) (.slice none 0 0) (.slice none 0 0) 6 rfl rfl rfl eP.1 eP.2) rfl ?_;exact Vo HX.out hbz
 have d1:decide ((6:Int)<=(x.m:Int))=false:=by simp;omega
 have d2:decide (6<=x.m)=false:=by simp;omega
 obtain ⟨p0,p1,p2,p3,c0,c1,c2,c3,c4,c5,c6⟩:=aC.out _ bJ;have hbd:af w5 w5.drew:=ai.drew;have Kv:=bel bJ hbd;have S0:=aC.out _ bJ;have aQ:=aC.out _ Kv;have hx5:=hx3.below Kv;have yB:=zC (show ∀ i ∈ K.iota x.m,0<=i/\i < (x.r.length:Int) from λi hi=>by have:=K.zY.1 hi;have:=aS.out;omega);go_upto_region 6 with fail;clear d1 d2;clear p0 p1 p2 p3 c0 c1 c2 c3 c4 c5 c6
 go_region_held3 (pK w x q)
  (with_reducible first | exact S2 | exact S1 | exact aQ | exact S0 | fail)
  (first
   | (go_at_call 96;refine (abT x.m _ (by omega)).mono ?_;rintro e w6 ⟨⟨V6,k6,rfl,dS⟩,b6⟩;have dR:=bel Kv b6;have S1:=aC.out _ dR)
   | (go_at_call 95;refine (Jr x.B x.m x.d x.r V6 x.m k6 (K.iota x.m) q _ (hx5.below b6).cs.bf dS yB.out (hx5.below b6).req hx.qs hx.q (by omega)).mono ?_;rintro e w7 ⟨⟨A7,k7,L7,rfl,hL7,hLb,Es,uY,Lr⟩,b7⟩;have fJ:=bel dR b7;have S2:=aC.out _ fJ)
   | fail)
 have hb7:=bel hb3 fJ;have hx7:=hx3.below fJ;have oK:=zC (show L7.map Q.bare=(x.r ++ [q]).map Q.bare by rw [hLb,aS.out,K.Di]);have Hw:eu w7 (x.with_ A7 (x.m + 1) k7 L7):=hx5.case (bel b6 b7) hL7 hLb (by omega);have CP:=acv (x.with_ A7 (x.m + 1) k7 L7) w7 Hw;obtain ⟨P,hP⟩:=zB (K.plan x.nd x.l x.ss (x.r ++ [q]));have HP:=zC hP;rw [show K.plan (x.with_ A7 (x.m + 1) k7 L7).nd (x.with_ A7 (x.m + 1) k7 L7).l (x.with_ A7 (x.m + 1) k7 L7).ss (x.with_ A7 (x.m + 1) k7 L7).r=P by rw [hP];exact K.Ja oK.out rfl] at CP;have QS:=dR.size;have Lc:∀ ad,A7=some ad->w3.heap.size<=ad.block:=λad e=>aN QS (uY ad e);have Ls:=Lr.mono QS;obtain ⟨p0,p1,p2,p3,-⟩:=S2;have FP:=zC (show ∀ p ∈ L7,p.n<=1000000000 from Hw.b5);clear hP S0 aQ S1 hbd Kv dS hLb uY Lr QS Hw;go_wp2_with fail;refine CP.mono ?_;rintro e w8 ⟨⟨PB,bn,bc,pb,rfl,xw,anx,Io,LD,BI⟩,b8⟩;clear CP p0 p1 p2 p3;have je:=bel fJ b8;have hb8:=bel hb3 je;have Zq:=hL7.below b8;have Ur:=hx3.below je;have Bl:=fJ.size;by_cases h2:P.2=0
 ·have d1:(P.2 == 0)=true:=by simp [h2]
  have d2:decide (P.2=0)=true:=by simp [h2]
  have HX:=zC (show R=(some (x.r ++ [q]),⟨true,P.1.map λt=>((t.1:Int),t.2),[],[]⟩,0) by rw [HR.out];unfold K.dL;rw [if_neg iq.out,if_neg (by rw [<-aS.out];exact h6),if_pos (by rw [<-HP.out];exact h2),HP.out]);have OZ:=zC (show K.checks x.nd x.l x.ss (x.r ++ [q]) (P.1.map λt=>((t.1:Int),t.2))=0 by rw [HP.out] at h2 ⊢;exact K.Vk h2);obtain ⟨p0,p1,p2,p3,c0,c1,c2,c3,c4,c5,c6⟩:=aC.out _ je;go_wp2_with fail;refine (book_any x A7 (x.m + 1) k7 w8 Ur.cs.net Ur.cs.shifts zS hxs hxr).mono ?_;rintro e w9 ⟨⟨RA,rc,SA,sc,ss',rfl,G6,Ee,hsb,o5,lC,hrn⟩,b9⟩;have sZ:=bel je b9;have ji:=bel hb3 sZ;have GH:=je.size;clear p0 p1 p2 p3 c0 c1 c2 c3 c4 c5 c6 d1 d2;obtain ⟨hz2,hz3⟩:=sU.out _ sZ;have f2:=b_ hz2;have f3:=b_ hz3;obtain ⟨y0,y1,y2,y3⟩:=gX hz2;obtain ⟨v0,v1,v2,v3⟩:=gX hz3;go_wp2_with fail;obtain ⟨Ms,hMs⟩:∃ Ms:List (Addr × Value),Ms=[(⟨w.heap.size + 1 + 1,0,none⟩,.int .i64 x.nd),(⟨w.heap.size + 1 + 1,1,none⟩,.slice RA x.n rc),(⟨w.heap.size + 1 + 1,2,none⟩,.slice SA x.sn sc),(⟨w.heap.size + 1 + 1,3,none⟩,.slice A7 (x.m + 1) k7),(⟨w.heap.size + 1 + 1 + 1,0,none⟩,.bool true),(⟨w.heap.size + 1 + 1 + 1,1,none⟩,.slice PB bn bc),(⟨w.heap.size + 1 + 1 + 1,2,none⟩,.slice none 0 0),(⟨w.heap.size + 1 + 1 + 1,3,none⟩,.slice none 0 0)]:=⟨_,rfl⟩;have iW:∀ p ∈ Ms,p.1.block=w.heap.size + 1 + 1\/p.1.block=w.heap.size + 1 + 1 + 1:=λp hp=>by rw [hMs] at hp;exact su hp
  obtain ⟨wz,hwz⟩:=zB (Sets w9 Ms);have eP:=vW hz2 hz3 (by omega) (.int .i64 x.nd) (.slice RA x.n rc) (.slice SA x.sn sc) (.slice A7 (x.m + 1) k7) (.bool true) (.slice PB bn bc) (.slice none 0 0) (.slice none 0 0);rw [<-hMs,<-hwz] at eP;have hbz:af w wz:=by rw [hwz];exact ji.trans (Sets.below Ms _ _ ai (λp hp=>by rcases iW p hp with e | e <;> rw [e] <;> omega))
  have mG:∀ p ∈ Ms,p.1.block < w3.heap.size:=λp hp=>by rcases iW p hp with e | e <;> rw [e] <;> omega
  have He:ja wz PB bn pb:=by rw [hwz];exact (xw.below b9).sets Ms (B:=w3.heap.size) (λad e=>aN Bl (LD ad e)) (λy hy=>⟨λh0 ad e=>aN Bl ((BI y hy).1 h0 ad e),λh0 ad e=>aN Bl ((BI y hy).2.1 h0 ad e)⟩) mG
  have G7:gq wz RA x.n x.l:=by rw [hwz];exact aX.sets G6 Ms (λh0 ad e p hp=>by have h1:=o5 h0 ad e;have h2:=mG p hp;omega)
  have hSz:Shifts wz SA x.sn ss':=by rw [hwz];exact Ee.sets Ms (B:=w3.heap.size) (λad e=>aN GH (lC ad e)) (λs hs h0 ad e=>aN GH (hrn s hs h0 ad e)) mG
  have BM:dm wz A7 (x.m + 1) L7:=by rw [hwz];exact (Zq.below b9).sets Ms (B:=w3.heap.size) Lc Ls mG
  have iP:=hwz;simp only [hMs,Sets] at iP;rw [<-iP];refine jc (v:=.tuple #[.agg #[.int .i64 x.nd,.slice RA x.n rc,.slice SA x.sn sc,.slice A7 (x.m + 1) k7],.agg #[.bool true,.slice PB bn bc,.slice none 0 0,.slice none 0 0],.int .i64 0]) (Gn _ wz (w.heap.size + 1 + 1) (w.heap.size + 1 + 1 + 1) (.int .i64 x.nd) (.slice RA x.n rc) (.slice SA x.sn sc) (.slice A7 (x.m + 1) k7) (.bool true) (.slice PB bn bc) (.slice none 0 0) (.slice none 0 0) 0 rfl rfl rfl eP.1 eP.2) rfl ?_;have aaJ:pb.map TV.pr=P.1.map (λt=>((t.1:Int),t.2)):=Io;have hft:Am bn pb:=YH He (by have h9:=K.Yh OZ.out;rw [<-aaJ] at h9;rw [bu] at h9;exact h9);refine ⟨⟨⟨x.nd,RA,x.n,rc,x.l,SA,x.sn,sc,ss',A7,x.m + 1,k7,L7⟩,⟨true,PB,bn,bc,pb,none,0,0,[],none,0,0,[]⟩,by rw [HX.out],⟨He,iQ _,(E8 wz).b⟩,⟨hft,aW _,Fa.fb⟩,?_,?_,⟨λad e=>aN h03 (aN Bl (LD ad e)),λy hy=>⟨λh0 ad e=>aN h03 (aN Bl ((BI y hy).1 h0 ad e)),λh0 ad e=>aN h03 (aN Bl ((BI y hy).2.1 h0 ad e))⟩,(E_ _).v,(E_ _).r,(E_ _).b⟩,⟨λh0 ad e=>aN h03 (aN GH (o5 h0 ad e)),λad e=>aN h03 (aN GH (lC ad e)),λs hs h0 ad e=>aN h03 (aN GH (hrn s hs h0 ad e)),λad e=>aN h03 (Lc ad e),Ls.mono h03⟩⟩,hbz⟩
  ·rw [HX.out];unfold AV.an;dsimp only;rw [aaJ];rfl
  ·rw [HX.out];exact ⟨rfl,rfl,rfl,rfl,⟨G7,hSz,BM,(show x.n<=1000000000 by omega),λs hs=>by have:=VE Ee Ur.cs.shifts hsb hxr s hs;omega,(show x.sn<=1000000000 by omega),(show x.m + 1<=1000000000 by omega),FP.out⟩,hsb,oK.out⟩
 obtain ⟨h4,v0,Iy,hask⟩:=K.XI iq.out (by rw [<-aS.out];exact h6) (by rw [<-HP.out];exact h2);have HX:=zC (show R=(some x.r,⟨false,[],v0,(K.refute x.nd x.l x.ss (K.dD x.r v0 q)).1.map λb=>((b.1:Int),b.2)⟩,0) by rw [HR.out];exact hask);have d1:(P.2 == 0)=false:=by simp [h2]
 have d2:decide (P.2=0)=false:=by simp [h2]
 have PU:=zC Iy;clear Iy hask h4;go_wp2_with fail;clear d1 d2;go_loopw [12] (λv12 wr=>∃ k:Nat,v12=.int .i64 k/\k<=x.m + 1/\Hid (K.kU x.nd x.l x.ss x.r q (x.m + 1 - k) k=some v0)/\af w8 wr) (λv12 _=>x.m + 1 - (intOf v12).toNat)
 case atStart=>exact ⟨0,rfl,aW _,by show _=_;rw [Nat.sub_zero,aS.out];exact PU.out,ai⟩
 case round =>
  obtain ⟨k,rfl,hk,hsm,hbr⟩:=hrel;by_cases hlt:k<=x.m;rotate_left
  ·exfalso;have h9:=hsm.out;rw [show x.m + 1 - k=0 by omega] at h9;cases h9
  obtain ⟨d1,d2⟩:=zM (a:=k) (b:=x.m) (by omega);have Kz:=bel je hbr;obtain ⟨p0,p1,p2,p3,c0,c1,c2,c3,c4,c5,c6⟩:=aC.out _ Kz;have Jy:=agt x q w3.heap.size k 0 none 0 0 [] wr (hx3.below Kz) (iQ _) (λi hi=>(by cases hi)) (by omega) (aW _) Kz.size (λad e=>(by cases e));rw [show ((0:Nat):Int)=0 from rfl] at Jy;obtain ⟨o1,ho1⟩:=zB (K.iC x.nd x.l x.ss x.r q [] k 0);rw [<-ho1] at Jy;have HST:=zC (show o1.or (K.kU x.nd x.l x.ss x.r q (x.m + 1 - (k + 1)) (k + 1))=some v0 by
   rw [ho1,<-K.adY,show x.m + 1 - (k + 1) + 1=x.m + 1 - k by omega];exact hsm.out)
  have JL:=zC ho1;clear ho1 hsm;go_wp2_with fail;refine Jy.mono ?_;rintro e w9 ⟨⟨A9,n9,k9,z9,rfl,lW,jI,rD⟩,b9⟩;have wK:=zC lW;have Ws:=zC jI;have sZ:=bel Kz b9;have vG:=bel hbr b9;clear Jy lW jI d1 d2;clear p0 p1 p2 p3 c0 c1 c2 c3 c4 c5 c6;cases z9
  ·have HN:=zC (show K.kU x.nd x.l x.ss x.r q (x.m + 1 - (k + 1)) (k + 1)=some v0 by
    have h9:=HST.out;have h8:=wK.out;cases o1 with
    | none=>exact h9
    | some v=>cases h8)
   go_wp2_with fail;go_roundw
   case rel=>(go_light;exact ⟨k + 1,by go_num,by omega,HN.out,vG⟩)
   case measure=>(go_light;simp [intOf];omega)
  ·obtain ⟨v,hv⟩:∃ v,o1=some v:=by
    have h8:=wK.out;cases o1 with
    | none=>cases h8
    | some v=>exact ⟨v,rfl⟩
   have hvv:v=v0:=by
    have h9:=HST.out;rw [hv] at h9;injection h9
   subst hvv;have hI:=Ws.out v hv;have jV:v ∈ A.dM x.r.length k 0:=by
    rw [JL.out] at hv;unfold K.iC at hv;obtain ⟨u,hu,e⟩:=fE.1 (List.mem_of_find?_eq_some hv);rw [List.nil_append] at e;rw [<-e];exact hu
   have hvl:=(A.qL.1 jV).1;obtain ⟨hva,rM⟩:=K.QD jV;have Ez:n9<=100:=by have:=hI.1;omega
   have HVA:=zC hva;have FX:=zC rM;clear hv jV hva rM HST JL wK Ws hvl;have hbd:af w9 w9.drew:=ai.drew;have KA:=bel sZ hbd;have S0:=aC.out _ sZ;have aQ:=aC.out _ KA;have EJ:=hx3.below KA;go_upto_region 15 with fail
   go_region_held3 (pK w x q)
    (with_reducible first | exact S2 | exact S1 | exact aQ | exact S0 | fail)
    (first
     | (go_at_call 95;refine (Jr x.B x.m x.d x.r A9 n9 k9 v q _ EJ.cs.bf (hI.below hbd) FX.out EJ.req hx.qs hx.q (by omega)).mono ?_;rintro e wa ⟨⟨Aa,ka,La,rfl,hLa,Ru,hka,Y4,lu⟩,ba⟩;have bar:=bel KA ba;have S1:=aC.out _ bar)
     | (go_at_call 22;refine (acF (x.with_ Aa (n9 + 1) ka La) _ (EJ.case ba hLa Ru (by omega))).mono ?_;rintro e wb ⟨⟨RB,rn,rc,bl,rfl,hBb,hrc,Q5,hbl,ZE,Lt⟩,bb⟩;have yR:=bel bar bb;have S2:=aC.out _ yR)
     | fail)
   have wE:=zC (show bl.map BV.pr=(K.refute x.nd x.l x.ss (K.dD x.r v q)).1.map λb=>((b.1:Int),b.2) by
    rw [hbl,<-K.acJ Ru rfl];rfl)
   have Ej:=bar.size;have hI2:=((hI.below hbd).below ba).below bb;have hL2:=(((Zq.below vG).below hbd).below ba).below bb;clear S0 aQ S1 S2 hbd KA hbl hLa Ru Y4 lu hI ba bb bar;have hbd:af wb wb.drew:=ai.drew;have KC:=bel yR hbd;have S0:=aC.out _ yR;have aQ:=aC.out _ KC;have hxb:=hx3.below KC;have hms:∀ (W:World) (M:List (Addr × Value)),(∀ p ∈ M,p.1.block=w.heap.size + 1 + 1\/p.1.block=w.heap.size + 1 + 1 + 1)->(pK w x q) W->(pK w x q) (Sets W M):=λW M hM h=>by
    have mv:∀ (b o:Nat) (u:Value),b < w.heap.size + 1 + 1->W.cell? ⟨b,o,none⟩=some u->(Sets W M).cell? ⟨b,o,none⟩=some u:=λb o u hb hc=>(lg (Sets.other M W _ (λp hp=>by rcases hM p hp with e | e <;> rw [e] <;> (dsimp only;omega)))).trans hc;obtain ⟨a0,a1,a2,a3,a4,a5,a6,a7,a8,a9,a10⟩:=h;exact ⟨mv _ _ _ (by omega) a0,mv _ _ _ (by omega) a1,mv _ _ _ (by omega) a2,mv _ _ _ (by omega) a3,mv _ _ _ (by omega) a4,mv _ _ _ (by omega) a5,mv _ _ _ (by omega) a6,mv _ _ _ (by omega) a7,mv _ _ _ (by omega) a8,mv _ _ _ (by omega) a9,mv _ _ _ (by omega) a10⟩
   have WB:=zC hms;have i0:(0:Int)<=(x.m:Int):=by omega
   have ann:x.m<=k7:=by omega
   have i1:(x.m:Int)<=(k7:Int):=by omega
   clear hms;go_upto_region 16 with fail
   go_region_held3 (pK w x q)
    (with_reducible first | exact S3 | exact S2 | exact S1 | exact aQ | exact S0 | fail)
    (first
     | (go_at_call 97;refine (book_any x A7 x.m k7 _ hxb.cs.net hxb.cs.shifts zS hxs hxr).mono ?_;rintro e wc ⟨⟨RA,rc',SA,sc,ss',rfl,hRc,zi,hsb,o5,lC,hrn⟩,bc⟩;have wV:=bel KC bc;have S1:=aC.out _ wV;obtain ⟨hz2,hz3⟩:=sU.out _ wV;have f2:=b_ hz2;have f3:=b_ hz3;have y0:=ah hz2 0 _ rfl;have y1:=ah hz2 1 _ rfl;have y2:=ah hz2 2 _ rfl;have y3:=ah hz2 3 _ rfl;have v0:=ah hz3 0 _ rfl;have v1:=ah hz3 1 _ rfl;have v2:=ah hz3 2 _ rfl;have v3:=ah hz3 3 _ rfl;have S2:=WB.out wc [((⟨w.heap.size + 1 + 1,0,none⟩:Addr),.int .i64 x.nd),((⟨w.heap.size + 1 + 1,1,none⟩:Addr),.slice RA x.n rc'),((⟨w.heap.size + 1 + 1,2,none⟩:Addr),.slice SA x.sn sc),((⟨w.heap.size + 1 + 1,3,none⟩:Addr),.slice A7 x.m k7)] (λp hp=>.inl (Dt hp)) S1;have S3:=WB.out wc [(⟨w.heap.size + 1 + 1,0,none⟩,.int .i64 x.nd),(⟨w.heap.size + 1 + 1,1,none⟩,.slice RA x.n rc'),(⟨w.heap.size + 1 + 1,2,none⟩,.slice SA x.sn sc),(⟨w.heap.size + 1 + 1,3,none⟩,.slice A7 x.m k7),(⟨w.heap.size + 1 + 1 + 1,0,none⟩,.bool false),(⟨w.heap.size + 1 + 1 + 1,1,none⟩,.slice none 0 0),(⟨w.heap.size + 1 + 1 + 1,2,none⟩,.slice A9 n9 k9),(⟨w.heap.size + 1 + 1 + 1,3,none⟩,.slice RB rn rc)] (λp hp=>su hp) S1;simp only [Sets] at S2 S3)
     | fail)
   have Rh:=(hI2.below hbd).below bc;have hLc:=(hL2.below hbd).below bc;have hBc:=(hBb.below hbd).below bc;have hbc:=bel hb3 wV;have Hq:=KC.size;clear S0 aQ S1 S2 S3 f2 f3 y0 y1 y2 y3 v0 v1 v2 v3 hI2 hL2 hBb bc;go_wp2_with fail;obtain ⟨Ms,hMs⟩:∃ Ms:List (Addr × Value),Ms=[(⟨w.heap.size + 1 + 1,0,none⟩,.int .i64 x.nd),(⟨w.heap.size + 1 + 1,1,none⟩,.slice RA x.n rc'),(⟨w.heap.size + 1 + 1,2,none⟩,.slice SA x.sn sc),(⟨w.heap.size + 1 + 1,3,none⟩,.slice A7 x.m k7),(⟨w.heap.size + 1 + 1 + 1,0,none⟩,.bool false),(⟨w.heap.size + 1 + 1 + 1,1,none⟩,.slice none 0 0),(⟨w.heap.size + 1 + 1 + 1,2,none⟩,.slice A9 n9 k9),(⟨w.heap.size + 1 + 1 + 1,3,none⟩,.slice RB rn rc)]:=⟨_,rfl⟩;have iW:∀ p ∈ Ms,p.1.block=w.heap.size + 1 + 1\/p.1.block=w.heap.size + 1 + 1 + 1:=λp hp=>by rw [hMs] at hp;exact su hp
   obtain ⟨wz,hwz⟩:=zB (Sets wc Ms);have eP:=vW hz2 hz3 (by omega) (.int .i64 x.nd) (.slice RA x.n rc') (.slice SA x.sn sc) (.slice A7 x.m k7) (.bool false) (.slice none 0 0) (.slice A9 n9 k9) (.slice RB rn rc);rw [<-hMs,<-hwz] at eP;have hbz:af w wz:=by rw [hwz];exact hbc.trans (Sets.below Ms _ _ ai (λp hp=>by rcases iW p hp with e | e <;> rw [e] <;> omega))
   have mG:∀ p ∈ Ms,p.1.block < w3.heap.size:=λp hp=>by rcases iW p hp with e | e <;> rw [e] <;> omega
   have Rk:Ints wz A9 n9 v:=by rw [hwz];exact Rh.sets Ms (λh0 ad e p hp=>by have h1:=rD ad e;have h2:=mG p hp;omega)
   have Q3:iZ wz RB rn bl:=by rw [hwz];exact hBc.sets Ms (B:=w3.heap.size) (λad e=>aN Ej (ZE ad e)) (λy hy=>⟨λh0 ad e=>aN Ej ((Lt y hy).1 h0 ad e),λh0 ad e=>aN Ej ((Lt y hy).2 h0 ad e)⟩) mG
   have G7:gq wz RA x.n x.l:=by rw [hwz];exact aX.sets hRc Ms (λh0 ad e p hp=>by have h1:=o5 h0 ad e;have h2:=mG p hp;omega)
   have hSz:Shifts wz SA x.sn ss':=by rw [hwz];exact zi.sets Ms (B:=w3.heap.size) (λad e=>aN Hq (lC ad e)) (λs hs h0 ad e=>aN Hq (hrn s hs h0 ad e)) mG
   have BM:dm wz A7 x.m (L7.take x.m):=by rw [hwz];exact (hLc.take (Nat.le_succ _)).sets Ms (B:=w3.heap.size) Lc (Ls.take _) mG
   have iP:=hwz;simp only [hMs,Sets] at iP;rw [<-iP];refine jc (v:=.tuple #[.agg #[.int .i64 x.nd,.slice RA x.n rc',.slice SA x.sn sc,.slice A7 x.m k7],.agg #[.bool false,.slice none 0 0,.slice A9 n9 k9,.slice RB rn rc],.int .i64 0]) (Gn _ wz (w.heap.size + 1 + 1) (w.heap.size + 1 + 1 + 1) (.int .i64 x.nd) (.slice RA x.n rc') (.slice SA x.sn sc) (.slice A7 x.m k7) (.bool false) (.slice none 0 0) (.slice A9 n9 k9) (.slice RB rn rc) 0 rfl rfl rfl eP.1 eP.2) rfl ?_;refine ⟨⟨⟨x.nd,RA,x.n,rc',x.l,SA,x.sn,sc,ss',A7,x.m,k7,L7.take x.m⟩,⟨false,none,0,0,[],A9,n9,k9,v,RB,rn,rc,bl⟩,by rw [HX.out],⟨(E8 wz).t,Rk,Q3⟩,⟨Fa.ft,(show n9<=1000 by omega),Q5⟩,?_,?_,⟨(E_ _).p,(E_ _).t,λad e=>aN h03 (rD ad e),λad e=>aN h03 (aN Ej (ZE ad e)),λy hy=>⟨λh0 ad e=>aN h03 (aN Ej ((Lt y hy).1 h0 ad e)),λh0 ad e=>aN h03 (aN Ej ((Lt y hy).2 h0 ad e))⟩⟩,⟨λh0 ad e=>aN h03 (aN Hq (o5 h0 ad e)),λad e=>aN h03 (aN Hq (lC ad e)),λs hs h0 ad e=>aN h03 (aN Hq (hrn s hs h0 ad e)),λad e=>aN h03 (Lc ad e),(Ls.take _).mono h03⟩⟩,hbz⟩
   ·rw [HX.out];unfold AV.an;dsimp only;rw [wE.out];rfl
   ·rw [HX.out];refine ⟨rfl,rfl,rfl,rfl,⟨G7,hSz,BM,(show x.n<=1000000000 by omega),λs hs=>by have:=VE zi hxb.cs.shifts hsb hxr s hs;omega,(show x.sn<=1000000000 by omega),(show x.m<=1000000000 by omega),λp hp=>FP.out p (List.mem_of_mem_take hp)⟩,hsb,?_⟩;show (L7.take x.m).map Q.bare=x.r.map Q.bare;rw [List.map_take,oK.out,eG,List.take_left' (by rw [bu,aS.out])]
theorem adG (A B:aj) (n m c d:Nat) (la lb:List Lb) (w:World) (hla:gY w A n la) (hlb:gY w B m lb) (hn:n<=1000000000) (hm:m<=1000000000) :
  ay 83 #[.slice A n c,.slice B m d] w (bg w (decide (la=lb))):=by
 by_cases hnm:n=m
 ·obtain rfl:=hnm;go_enter Tryz.func83,Tryz.ntmps83;go_wp2_with fail;go_loopw [5] (λvi wr=>∃ k:Nat,vi=.int .i64 k/\k<=n/\Hid (la.take k=lb.take k)/\af w wr) (λvi _=>n - (intOf vi).toNat)
  case atStart=>exact ⟨0,rfl,by omega,rfl,ai⟩
  case round =>
   obtain ⟨k,rfl,hk,hr,hb⟩:=hrel;by_cases hlt:k < n
   ·obtain ⟨ad,o,rfl,hg,c0,c1,c2⟩:=gY.at_ (aX.below hla hb) hlt;obtain ⟨lM,o2,rfl,hg2,d0,d1,d2⟩:=gY.at_ (aX.below hlb hb) hlt;have HN:=zC (aec hg hg2 hr.out);obtain ⟨k0,k1⟩:=zJ (a:=k) (b:=n) (by omega);clear hg hg2;cases e1:(o.set == o2.set)
    ·have HX:=zC (λh=>(show ¬ o=o2 from λe=>by rw [e] at e1;simp at e1) (HN.out.1 h));go_wp2_with fail;go_quiet (fail);go_wp2_with fail;go_ret;exact ⟨aK (Eq.symm (zI (λh=>HX.out (by rw [h])))),below_drewN hb _⟩
    cases e2:(o.last == o2.last)
    ·have HX:=zC (λh=>(show ¬ o=o2 from λe=>by rw [e] at e2;simp at e2) (HN.out.1 h));go_wp2_with fail;go_quiet (fail);go_wp2_with fail;go_ret;exact ⟨aK (Eq.symm (zI (λh=>HX.out (by rw [h])))),below_drewN hb _⟩
    cases e3:(o.time == o2.time)
    ·have HX:=zC (λh=>(show ¬ o=o2 from λe=>by rw [e] at e3;simp at e3) (HN.out.1 h));go_wp2_with fail;go_quiet (fail);go_wp2_with fail;go_ret;exact ⟨aK (Eq.symm (zI (λh=>HX.out (by rw [h])))),below_drewN hb _⟩
    have HX:=zC (HN.out.2 (Lb.eq_iff.2 ⟨by simpa using e1,by simpa using e2,by simpa using e3⟩));go_wp2_with fail;go_quiet (fail);go_wp2_with fail;go_roundw
    case rel=>exact ⟨k + 1,by go_num,by omega,HX.out,below_drewN hb _⟩
    case measure=>simp [intOf];omega
   ·have HX:=zC (show la=lb by
     have h:=hr.out;rw [fD (by rw [<-hla.1];omega),fD (by rw [<-hlb.1];omega)] at h;exact h)
    go_wp2_with fail;go_ret;exact ⟨aK (Eq.symm (zH HX.out)),hb⟩
 ·have HX:=zC (show ¬ la=lb from λh=>hnm (by rw [hla.1,hlb.1,h]));have q1:(((n:Nat):Int) != ((m:Nat):Int))=true:=by simp;omega
  go_enter Tryz.func83,Tryz.ntmps83;go_wp2_with fail;go_ret;exact ⟨aK (Eq.symm (zI HX.out)),ai⟩
theorem alb (A B:aj) (n m c d:Nat) (la lb:List BV) (w:World) (ha:iZ w A n la) (hb:iZ w B m lb) (h:la.map BV.pr=lb.map BV.pr) (hn:n<=1000000000) (hs:∀ y ∈ la,y.vn<=1000000000/\y.ln<=1000000000) :
  ay 25 #[.slice A n c,.slice B m d] w (bg w true):=by
 obtain rfl:m=n:=by
  have:=congrArg List.length h;rw [bu,bu] at this;rw [ha.1.1,hb.1.1,this]
 have HM:=zC h;clear h;have ee:∀ z:Int,(z != z)=false:=λz=>by simp
 go_enter Tryz.func25,Tryz.ntmps25;go_wp2_with fail;go_loopw [5] (λv wr=>∃ k:Nat,v=.int .i64 k/\k<=m/\af w wr) (λv _=>m - (intOf v).toNat)
 case atStart=>exact ⟨0,rfl,aW _,ai⟩
 case round =>
  obtain ⟨k,rfl,hk,hbr⟩:=hrel;by_cases hlt:k < m
  ·obtain ⟨ad,p,hA,hp,⟨hI1,hI2⟩,c0,c1,c2⟩:=(ha.below hbr).at_ hlt;obtain ⟨lM,q,hB,hq2,⟨hJ1,hJ2⟩,d0,d1,d2⟩:=(hb.below hbr).at_ hlt;have hpq:p.pr=q.pr:=by
    have e1:(la.map BV.pr)[k]? = some p.pr:=by rw [dG,hp];rfl
    rw [HM.out,dG,hq2] at e1;injection e1 with e1;exact e1.symm
   obtain ⟨hpv,hpl⟩:=hs p (zD hp);have e1:p.sh=q.sh:=congrArg (λz=>z.1) hpq;have e2:p.v=q.v:=congrArg (λz=>z.2.1) hpq;have e3:p.lb=q.lb:=congrArg (λz=>z.2.2) hpq;have hqv:q.vn<=1000000000:=by rw [hJ1.1,<-e2,<-hI1.1];exact hpv
   have EE:q.ln<=1000000000:=by rw [hJ2.1,<-e3,<-hI2.1];exact hpl
   have C1:∀ i:ak wr,ay 50 #[.slice p.V p.vn p.vc,.slice q.V q.vn q.vc] i.val (bg i.val true):=λi=>by
    have h9:=VC p.V q.V p.vn q.vn p.vc q.vc p.v q.v i.val (hI1.below i.property) (hJ1.below i.property) hpv hqv;rw [zH e2] at h9;exact h9
   have C2:∀ i:ak wr,ay 83 #[.slice p.LA p.ln p.lc,.slice q.LA q.ln q.lc] i.val (bg i.val true):=λi=>by
    have h9:=adG p.LA q.LA p.ln q.ln p.lc q.lc p.lb q.lb i.val (aX.below hI2 i.property) (aX.below hJ2 i.property) hpl EE;rw [zH e3] at h9;exact h9
   obtain ⟨k0,k1⟩:=zJ (a:=k) (b:=m) (by omega);rw [<-e1] at d0;have a0:=ak.cell c0;have a1:=ak.cell c1;have a2:=ak.cell c2;have b0:=ak.cell d0;have b1:=ak.cell d1;have b2:=ak.cell d2;clear hp hq2 hpq hpv hpl hqv EE hI1 hI2 hJ1 hJ2 c0 c1 c2 d0 d1 d2 e1 e2 e3;rw [hA,hB];clear hA hB;go_upto_region 6 with fail;refine fV (by kernel_rfl) (by kernel_rfl) ?_;repeat (go_big_quiet_step ((first | (go_at_call 50;exact ak.calls (C1 _)) | (go_at_call 83;exact ak.calls (C2 _)))))
   refine wpQuiet_nil ?_;rintro w4 ⟨⟨w4,b4⟩,rfl⟩;have hb4:=bel hbr b4;clear C1 C2 a0 a1 a2 b0 b1 b2;go_wp2_with fail;go_roundw
   case rel=>exact ⟨k + 1,by go_num,hlt,hb4⟩
   case measure=>simp [intOf];omega
  ·obtain ⟨hd,hd2⟩:=zL (a:=k) (b:=m) (by omega);go_wp2_with fail;go_ret;exact ⟨rfl,hbr⟩
theorem ajj (V:aj) (vn vc:Nat) (v:ag) (w:World) (hV:Ints w V vn v) (h1:v.Pairwise (· < ·)) (h2:∀ i ∈ v,0<=i/\i < 6) :
  ay 72 #[.slice V vn vc] w λe w'=>e=.returned (.int .i64 (K.num v))/\w=w':=by
 obtain ⟨s6,h6⟩:=K.Jj h1 h2;have H6:=zC h6;have HL:=zC hV.1;have dP:vn<=6:=by rw [hV.1];exact h6.len
 clear h6;go_enter Tryz.func72,Tryz.ntmps72;go_wp2_with fail;go_loopw [3,4] (λv3 v4 wr=>∃ j:Nat,v4=.int .i64 j/\j<=vn/\v3=.int .i64 (K.num (v.take j))/\w=wr) (λ_ v4 _=>vn - (intOf v4).toNat)
 case atStart=>exact ⟨0,rfl,aW _,rfl,rfl⟩
 case round =>
  obtain ⟨j,rfl,hj,rfl,rfl⟩:=hrel;by_cases hlt:j < vn
  ·obtain ⟨jJ,i,BR,hi,ci⟩:=hV.at_ hlt;obtain ⟨g1,g2,g3,g4⟩:=H6.out.at_ hi;have bH:=zC (H6.out.next hi);obtain ⟨i,rfl⟩:∃ n:Nat,i=(n:Int):=⟨i.toNat,by omega⟩;rw [kE] at g2 bH;obtain ⟨nm,hnm⟩:=zB (K.num (v.take j));rw [<-hnm] at g1 g2 bH ⊢;obtain ⟨mm,hmm⟩:=zB (nm + 2 ^ i);have hor:bits BinOp.or IntKind.i64 (nm:Int) (IntKind.i64.wrap (2 ^ i))=(mm:Int):=by rw [sG (by omega),KG g1 (by omega) g2,hmm]
   have aaD:bits BinOp.or IntKind.i64 (nm:Int) (wrap64 (2 ^ i))=(mm:Int):=by rw [<-IntWalk.i64_left];exact hor
   have HM:=zC (show K.num (v.take (j + 1))=mm by rw [bH.out,hmm]);obtain ⟨k0,k1⟩:=zJ (a:=j) (b:=vn) (by omega);have k2:(0:Int)<=(i:Int):=by omega
   have k3:(i:Int) < 64:=by omega
   clear hi hmm hnm bH g1 g2 g3 g4;rw [BR];go_wp2_with fail;go_roundw
   case rel=>(go_light;exact ⟨j + 1,by go_num,hlt,by rw [HM.out],(by first | rfl | trivial)⟩)
   case measure=>(go_light;simp [intOf];omega)
  ·obtain ⟨hd,hd2⟩:=zL (a:=j) (b:=vn) (by omega);have HX:=zC (show v.take j=v from fD (by rw [<-HL.out];omega));rw [HX.out];go_wp2_with fail;go_ret;first | exact ⟨rfl,rfl⟩ | exact rfl | trivial
namespace K
def abC (m:Nat):Nat:=m % 2 + m / 2 % 2 + m / 4 % 2 + m / 8 % 2
theorem afs:∀ n:Fin 5,∀ m:Fin 16,m.val < 2 ^ n.val->num (part (iota n.val) m.val)=m.val/\abC m.val=(part (iota n.val) m.val).length:=by decide +kernel
theorem Nj (n:Nat):(iota n).length=n:=by unfold iota;rw [bu,List.length_range]
theorem ajK {n m:Nat} (hn:n<=4) (hm:m < 2 ^ n):num (part (iota n) m)=m/\abC m=(part (iota n) m).length:=by
 have h16:m < 16:=dO hm (Nat.pow_le_pow_right (by decide) hn);exact afs ⟨n,by omega⟩ ⟨m,h16⟩ hm
end K
theorem DX (w:World) (o:Obj):af w (w.alloc o):=ai.alloc (zG _) _
namespace K
theorem aa2 (n:Nat):iota (n + 1)=iota n ++ [(n:Int)]:=by unfold iota;rw [List.range_succ,eG];rfl
end K
theorem ak' (a b:AV) (w:World) (ha:jZ w a) (hb:jZ w b) (oa:oI a) (ob:oI b) (h:a.an=b.an) :
  ay 36 #[pM a a.acc,pM b b.acc] w (bg w true):=by
 unfold AV.an at h;injection h with h1 h2 h3 h4;rw [<-h1];have HT:=zC h2;have HV:=zC h3;have HB:=zC h4;clear h2 h3 h4 h1;obtain ⟨z,hz⟩:=zB a.acc;rw [<-hz];clear hz;have ez:(z == z)=true:=by cases z <;> rfl
 obtain ⟨w1,hw1⟩:=zB (w.alloc (.cells #[.bool z,.slice a.PA a.pn a.pc,.slice a.VA a.vn a.vc,.slice a.RA a.rn a.rc] 50));obtain ⟨g,hg⟩:=zB w.heap.size;have b1:=aH hw1;have hA1:w1.heap[g]? = some (.cells #[.bool z,.slice a.PA a.pn a.pc,.slice a.VA a.vn a.vc,.slice a.RA a.rn a.rc] 50 (0,0)):=by rw [hw1,hg];exact aA _ _
 obtain ⟨w2,hw2⟩:=zB (w1.alloc (.cells #[.bool z,.slice b.PA b.pn b.pc,.slice b.VA b.vn b.vc,.slice b.RA b.rn b.rc] 50));have b2:=aH hw2;have z1:w1.heap.size=g + 1:=by rw [hw1,hg];exact aF _ _
 have hB2:w2.heap[g + 1]? = some (.cells #[.bool z,.slice b.PA b.pn b.pc,.slice b.VA b.vn b.vc,.slice b.RA b.rn b.rc] 50 (0,0)):=by rw [hw2,<-z1];exact aA _ _
 have hA2:=au b2 hA1;have hb2:=bel b1 b2;go_enter Tryz.func36,Tryz.ntmps36;go_upto_region 1 with fail;rw [<-hw1,<-hg,<-hw2];clear hw1 hg hw2 hA1 b1 b2 z1;obtain ⟨p0,p1,p2,p3⟩:=gX hA2;obtain ⟨q0,q1,q2,q3⟩:=gX hB2;have CT:ay 24 #[.slice a.PA a.pn a.pc,.slice b.PA b.pn b.pc] w2 (bg w2 true):=by
  refine (alg a.PA b.PA a.pn b.pn a.pc b.pc a.ts b.ts w2 (ha.t.below hb2) (hb.t.below hb2) oa.ft.1 ob.ft.1 (λy hy=>by have:=oa.ft.2 y hy;omega) (λy hy=>by have:=ob.ft.2 y hy;omega)).mono ?_;rintro e w' ⟨⟨z,rfl,hz⟩,hb'⟩;exact ⟨by rw [hz.2 HT.out],hb'⟩
 go_wp2_with fail;refine CT.mono ?_;rintro e w3 ⟨rfl,b3⟩;have hA3:=au b3 hA2;have hB3:=au b3 hB2;have hb3:=bel hb2 b3;clear CT p0 p1 p2 p3 q0 q1 q2 q3 hA2 hB2 b3;obtain ⟨p0,p1,p2,p3⟩:=gX hA3;obtain ⟨q0,q1,q2,q3⟩:=gX hB3;have CI:=EU a.VA b.VA a.vn b.vn a.vc b.vc a.v b.v w3 (ha.v.below hb3) (hb.v.below hb3) (by have:=oa.fv;omega) (by have:=ob.fv;omega);rw [zH HV.out] at CI;go_wp2_with fail;refine CI.mono ?_;rintro e w4 ⟨rfl,b4⟩;have mZ:=au b4 hA3;have hB4:=au b4 hB3;have hb4:=bel hb3 b4;clear CI p0 p1 p2 p3 q0 q1 q2 q3 hA3 hB3 b4;obtain ⟨p0,p1,p2,p3⟩:=gX mZ;obtain ⟨q0,q1,q2,q3⟩:=gX hB4;have CB:=alb a.RA b.RA a.rn b.rn a.rc b.rc a.bl b.bl w4 (ha.b.below hb4) (hb.b.below hb4) HB.out oa.fb.1 (λy hy=>by have:=oa.fb.2 y hy;omega);go_wp2_with fail;refine CB.mono ?_;rintro e w5 ⟨rfl,b5⟩;go_wp2_with fail;go_ret;exact ⟨rfl,bel hb4 b5⟩
namespace K
structure Kp where
 kept:List Int
 served:List Q
 OE:List (Int × Tr)
 reasons:List (List (Int × List Int × List Lb))
def Kp.zero:Kp:=⟨[],[],[],[]⟩
end K
def Ft (A:aj) (n:Nat) (g:Nat):Prop:=0 < n/\∃ ad,A=some ad/\ad.block=g
def Sm (w w':World) (U:Nat->Prop):Prop:=∀ g,U g->g < w.heap.size->w'.heap[g]? = w.heap[g]?
theorem Rd.sm {w w':World} {s n:Nat} {A:aj} {xs:List Value} (h:Rd w s A n xs) (hs:Sm w w' (Ft A n)):Rd w' s A n xs:=by
 refine ⟨h.1,λh0=>?_⟩;obtain ⟨ad,e,hc⟩:=h.2 h0;refine ⟨ad,e,λj u hu=>?_⟩;have c:=hc j u hu;have hl:=cell_lt c;rw [add_block] at hl;exact (lg (by rw [add_block];exact hs _ ⟨h0,ad,e,rfl⟩ hl)).trans c
theorem Rd.Bj {w:World} {s n:Nat} {A:aj} {xs:List Value} (h:Rd w s A n xs) (h0s:0 < s) {g:Nat} (hg:Ft A n g):g < w.heap.size:=by
 obtain ⟨h0,ad,e,rfl⟩:=hg;obtain ⟨ad',e',hc⟩:=h.2 h0;rw [e] at e';injection e' with e';subst e';have hl:0 < xs.length:=by rw [h.1];exact Nat.mul_pos h0 h0s
 have c:=hc 0 _ (zF hl);have:=cell_lt c;rwa [add_block] at this
theorem Sm.mono {w w':World} {U V:Nat->Prop} (h:Sm w w' U) (hV:∀ g,V g->U g):Sm w w' V:=λg hg=>h g (hV g hg)
theorem Sm.grown {w w':World} {U:Nat->Prop} {v:Value} (hg:w.grownBy w' v.ownBlock) (h:∀ g,U g->v.ownBlock ≠ some g):Sm w w' U:=λg hu hl=>hg.block g hl λe=>h g hu e.symm
def UT (A:aj) (n:Nat) (ts:List TV) (g:Nat):Prop:=Ft A n g\/∃ y ∈ ts,Ft y.A y.n g\/Ft y.A' y.n' g
def UB (A:aj) (n:Nat) (bl:List BV) (g:Nat):Prop:=Ft A n g\/∃ y ∈ bl,Ft y.V y.vn g\/Ft y.LA y.ln g
theorem ja.sm {w w':World} {A:aj} {n:Nat} {ts:List TV} (h:ja w A n ts) (hs:Sm w w' (UT A n ts)):ja w' A n ts :=
 ⟨⟨h.1.1,h.1.2.sm (hs.mono λ_ e=>.inl e)⟩,λy hy=>⟨⟨(h.2 y hy).1.1,(h.2 y hy).1.2.sm (hs.mono λ_ e=>.inr ⟨y,hy,.inl e⟩)⟩,⟨(h.2 y hy).2.1,(h.2 y hy).2.2.sm (hs.mono λ_ e=>.inr ⟨y,hy,.inr e⟩)⟩⟩⟩
theorem ja.Bj {w:World} {A:aj} {n:Nat} {ts:List TV} (h:ja w A n ts) {g:Nat} (hg:UT A n ts g):g < w.heap.size:=by
 rcases hg with e | ⟨y,hy,e | e⟩
 ·exact h.1.2.Bj (by decide) e
 ·exact (h.2 y hy).1.2.Bj (by decide) e
 ·exact (h.2 y hy).2.2.Bj (by decide) e
theorem iZ.sm {w w':World} {A:aj} {n:Nat} {bl:List BV} (h:iZ w A n bl) (hs:Sm w w' (UB A n bl)):iZ w' A n bl :=
 ⟨⟨h.1.1,h.1.2.sm (hs.mono λ_ e=>.inl e)⟩,λy hy=>⟨⟨(h.2 y hy).1.1,(h.2 y hy).1.2.sm (hs.mono λ_ e=>.inr ⟨y,hy,.inl e⟩)⟩,⟨(h.2 y hy).2.1,(h.2 y hy).2.2.sm (hs.mono λ_ e=>.inr ⟨y,hy,.inr e⟩)⟩⟩⟩
structure RV where
 A:Option Addr
 n:Nat
 c:Nat
 bl:List BV
def RV.cells (y:RV):List Value:=[.slice y.A y.n y.c]
def RV.pr (y:RV):List (Int × List Int × List Lb):=y.bl.map BV.pr
abbrev am6 (g gs:Nat) (x:Cs) (adR:Addr) (j:Nat) (y:RV) (q:Q):World->Prop:=λw':World=>aJ w' g 0 x.nd/\bT w' g 1 x.A x.n x.c/\w'.cell? (adR.add j)=some (.slice y.A y.n y.c)/\aJ w' gs 0 q.node/\aJ w' gs 1 q.room/\aJ w' gs 2 q.a_/\aJ w' gs 3 q.service/\aJ w' gs 4 q.aI/\aJ w' gs 5 q.aP/\bT w' gs 6 q.A q.n q.c
end Go.Proofs.YtippdjmpkafifaaGreat
