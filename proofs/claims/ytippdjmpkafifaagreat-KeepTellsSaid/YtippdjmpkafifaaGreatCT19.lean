import Derived.Test.YtippdjmpkafifaaGreatCT12
import Derived.Test.YtippdjmpkafifaaGreatCT17
import Derived.Test.YtippdjmpkafifaaGreatCT9
import Derived.Test.YtippdjmpkafifaaGreatCT13
import Derived.Test.YtippdjmpkafifaaGreatCT15
set_option maxRecDepth 100000
set_option maxHeartbeats 64000000
namespace Go.Proofs.YtippdjmpkafifaaGreat
open Go.RowKit
theorem I8 (A:Option Addr) (n c:Nat) (l:List Int) (x:Int) (w:World) (hl:Ints w A n l) (hn:n<=1000000000) :
  Calls Tryz.prog 55 #[.slice A n c,.int .i64 x] w λe w'=>e=.returned (.bool (l.any (· == x)))/\Below w.heap.size w w':=by
 go_enter Tryz.func55,Tryz.ntmps55;go_wp2_with fail;go_loopw [5] (λvi wr=>∃ k:Nat,vi=.int .i64 k/\k<=n/\Hid (l.any (· == x)=(l.drop k).any (· == x))/\Below w.heap.size w wr) (λvi _=>n - (intOf vi).toNat)
 case atStart=>exact ⟨0,rfl,by omega,by show _=_;rw [List.drop_zero],Below.refl _ _⟩
 case round =>
  obtain ⟨k,rfl,hk,hr,hW⟩:=hrel;by_cases hlt:k < n
  ·obtain ⟨ad,y,rfl,hg,c0⟩:=(hl.below hW).at_ hlt;have HS:=zC (lJ (p:=(· == x)) hg);have k0:(0:Int)<=(k:Int):=by omega
   have k1:(k:Int) < (n:Int):=by omega
   clear hg;by_cases hxy:y=x
   ·have hd1:decide (y=x)=true:=zH hxy;have hd2:(y == x)=true:=beq_iff_eq.2 hxy;have fZ:=zC hd2;clear hxy;go_wp2_with fail;go_ret;exact ⟨by rw [hr.out,HS.out,fZ.out];rfl,hW⟩
   ·have hd1:decide (y=x)=false:=zI hxy;have hd2:(y == x)=false:=beq_eq_false_iff_ne.2 hxy;have fZ:=zC hd2;clear hxy;go_wp2_with fail;go_roundw
    case rel=>exact ⟨k + 1,by go_num,by omega,by show _=_;rw [hr.out,HS.out,fZ.out];rfl,hW⟩
    case measure=>simp [intOf];omega
  ·have HD:=zC (show l.drop k=[] from List.drop_eq_nil_of_le (by rw [<-hl.1];omega));go_wp2_with fail;go_ret;exact ⟨by rw [hr.out,HD.out];rfl,hW⟩
theorem abn (PA:Option Addr) (n c:Nat) (l:List Int) (B:Option Addr) (m d:Nat) (v:List Int) (w:World) (hl:Ints w PA n l) (hn:n<=1000000000) (hv:Ints w B m v) (hm:m<=1000000000) :
  Calls Tryz.prog 80 #[.slice PA n c,.slice B m d] w λe w'=>e=.returned (.bool (A.part l v))/\Below w.heap.size w w':=by
 obtain ⟨R,hR⟩:=zB (A.part l v);rw [<-hR];have HR:=zC (show R=l.all λx=>v.any (· == x) from hR);clear hR;go_enter Tryz.func80,Tryz.ntmps80;go_wp2_with fail;go_loopw [5] (λvi wr=>∃ k:Nat,vi=.int .i64 k/\k<=n/\Hid (R=(l.drop k).all λx=>v.any (· == x))/\Below w.heap.size w wr) (λvi _=>n - (intOf vi).toNat)
 case atStart=>exact ⟨0,rfl,by omega,by show _=_;rw [List.drop_zero];exact HR.out,Below.refl _ _⟩
 case round =>
  obtain ⟨k,rfl,hk,hr,hW⟩:=hrel;by_cases hlt:k < n
  ·obtain ⟨ad,y,rfl,hg,c0⟩:=(hl.below hW).at_ hlt;have HS:=zC (Aq (p:=λx=>v.any (· == x)) hg);have k0:(0:Int)<=(k:Int):=by omega
   have k1:(k:Int) < (n:Int):=by omega
   obtain ⟨b,hb⟩:=zB (v.any (· == y));have HB:=zC hb;clear hg hb;go_wp2_with fail;refine (I8 B m d v y wr (hv.below hW) hm).mono ?_;rw [<-HB.out];rintro e w1 ⟨rfl,b1⟩;have hW1:=bel hW b1;cases b
   ·go_wp2_with fail;go_ret;exact ⟨by rw [hr.out,HS.out,<-HB.out];rfl,hW1⟩
   ·go_wp2_with fail;go_roundw
    case rel=>exact ⟨k + 1,by go_num,by omega,by show _=_;rw [hr.out,HS.out,<-HB.out];rfl,hW1⟩
    case measure=>simp [intOf];omega
  ·have HD:=zC (show l.drop k=[] from List.drop_eq_nil_of_le (by rw [<-hl.1];omega));go_wp2_with fail;go_ret;exact ⟨by rw [hr.out,HD.out];rfl,hW⟩
namespace K
def zN (nd:Int) (l:List Ro) (ss:List S) (r:List Q):Bool:=(aG nd l == 0) && (decide (ss.length<=4) && (!ss.any (iO nd) && !r.any (iw nd)))
theorem aao (nd:Int) (l:List Ro) (ss:List S) (r:List Q):aH nd l ss r=if zN nd l ss r=true then (if 6 < r.length then 6 else 0) else 1:=by
 unfold aH zN;by_cases h1:aG nd l=0
 ·by_cases h2:ss.length<=4
  ·cases h3:ss.any (iO nd) <;> cases h4:r.any (iw nd) <;> simp [h1,h2]
  ·cases h3:ss.any (iO nd) <;> cases h4:r.any (iw nd) <;> simp [h1,h2]
 ·simp [h1]
end K
theorem abp (x:Cs) (w:World) (hx:bF w x) :
  Calls Tryz.prog 111 #[.agg #[.int .i64 x.nd,.slice x.A x.n x.c],.slice x.SA x.sn x.sc,.slice x.B x.m x.d] w λe w'=>e=.returned (.bool (K.zN x.nd x.l x.ss x.r))/\Below w.heap.size w w':=by
 obtain ⟨R,hR⟩:=zB (K.zN x.nd x.l x.ss x.r);rw [<-hR];have HR:=zC (show R=((K.aG x.nd x.l == 0) && (decide (x.ss.length<=4) && (!x.ss.any (K.iO x.nd) && !x.r.any (K.iw x.nd)))) from hR);clear hR;obtain ⟨w1,hw1⟩:=zB (w.alloc (.cells #[.int .i64 x.nd,.slice x.A x.n x.c] 24));have b0:=zA hw1;obtain ⟨G0,hG0⟩:=zB w.heap.size;have hN:Net w1 G0 x.nd x.A x.n x.c:=by rw [hw1,hG0];exact Net.new w x.nd x.A x.n x.c
 have afE:=hx.b3;have hmb:=hx.b4;have bf:=zC hx.shifts.1.1;have aO:=zC hx.aN.1;have p0:=hN.c0;have p1:=hN.c1;obtain ⟨ne,hne⟩:=zB (K.aG x.nd x.l);go_enter Tryz.func111,Tryz.ntmps111;go_wp2_with fail;rw [<-hw1,<-hG0];clear hw1 hG0;refine (FN x.nd x.A x.n x.c x.l _ (aQ.below hx.net b0) hx.b1).mono ?_;rw [<-hne];rintro e w2 ⟨rfl,b2⟩;have kQ:=zC hne;have hN:=hN.below b2;have hb2:=bel b0 b2;clear p0 p1 b0 b2 hne;by_cases hz:ne=0;rotate_left
 ·have hd:(ne != 0)=true:=by simp [bne,hz]
  have HX:=zC (show R=false by rw [HR.out,<-kQ.out];simp [hz]);have hd2:decide (ne=0)=false:=by simp [hz]
  clear hz;go_wp2_with fail;go_ret;exact ⟨by rw [HX.out];rfl,hb2⟩
 subst hz;by_cases h4:x.sn<=4;rotate_left
 ·have hd:decide ((4:Int) < (x.sn:Int))=true:=by simp;omega
  have hd2:decide (4 < x.sn)=true:=by simp;omega
  have HX:=zC (show R=false by rw [HR.out,<-bf.out];simp [h4]);clear h4;go_wp2_with fail;go_ret;exact ⟨by rw [HX.out];rfl,hb2⟩
 have hd:decide ((4:Int) < (x.sn:Int))=false:=by simp;omega
 have hd2:decide (4 < x.sn)=false:=by simp;omega
 have HR2:=zC (show R=(!x.ss.any (K.iO x.nd) && !x.r.any (K.iw x.nd)) by
  have h0:(K.aG x.nd x.l == 0)=true:=by rw [<-kQ.out];rfl
  have h9:decide (x.ss.length<=4)=true:=zH (by rw [<-bf.out];exact h4);rw [HR.out,h0,h9,Bool.true_and,Bool.true_and])
 clear HR kQ;go_wp2_with fail;clear hd hd2;go_loopw [7] (λv wr=>∃ k:Nat,v=.int .i64 k/\k<=x.sn/\Hid (x.ss.any (K.iO x.nd)=(x.ss.drop k).any (K.iO x.nd))/\Below w2.heap.size w2 wr) (λv _=>x.sn - (intOf v).toNat)
 case atStart=>exact ⟨0,rfl,Nat.zero_le _,(by show _=_;rw [List.drop_zero]),Below.refl _ _⟩
 case round =>
  obtain ⟨k,rfl,hk,hr,hbr⟩:=hrel;have hbw:=bel hb2 hbr;by_cases hlt:k < x.sn
  ·obtain ⟨ad,s,hA,hs,hI,c0,c1,c2,c3,c4,c5⟩:=(hx.shifts.below hbw).at_ hlt;have HS:=zC (lJ (p:=K.iO x.nd) hs);have hsn:=hx.b2 s (zD hs);have k0:(0:Int)<=(k:Int):=by omega
   have k1:(k:Int) < (x.sn:Int):=by omega
   obtain ⟨ce,hce⟩:=zB (T.check s);have CK:∀ i:ah wr,Calls Tryz.prog 154 #[.agg #[.int .i64 s.day,.int .i64 s.ag,.int .i64 s.start,.int .i64 s.end_,.int .i64 s.aj,.slice s.A s.n s.c]] i.val λe w'=>e=.returned (.int .i64 ce)/\Below i.val.heap.size i.val w':=λi=>by rw [hce];exact J7 s i.val (hI.below i.property) hsn
   have q0:=ah.cell (hN.below hbr).c0;have e0:=ah.cell c0;have e1:=ah.cell c1;have e2:=ah.cell c2;have e3:=ah.cell c3;have e4:=ah.cell c4;have e5:=ah.cell c5;have sU:=zC (show K.iO x.nd s=(!(ce == 0) || decide (x.nd<=s.ag)) by rw [hce];rfl);clear hs hI hce c0 c1 c2 c3 c4 c5;rw [hA];clear hA;go_upto_region 6 with fail;obtain ⟨z1,hz1⟩:=zB ((ce != 0));have HZ1:=zC (show (ce == 0)=!z1 by rw [hz1];simp [bne]);obtain ⟨z2,hz2⟩:=zB (decide (x.nd<=s.ag));have HZ2:=zC hz2.symm;have f1:=hz1.symm;have f2:=hz2.symm;clear hz1 hz2;have Cm:=zC (show K.iO x.nd s=(z1 || z2) by rw [sU.out,HZ1.out,HZ2.out,Bool.not_not]);have h5:z1=true\/(z1=false/\z2=true)\/(z1=false/\z2=false):=by cases z1 <;> cases z2 <;> simp
   rcases h5 with rfl | ⟨rfl,rfl⟩ | ⟨rfl,rfl⟩
   all_goals
    refine dU (by kernel_rfl) (by kernel_rfl) ?_;repeat (go_big_quiet_step ((go_at_call 154;exact ah.calls (CK _))))
    refine wpQuiet_nil ?_;rintro w4 ⟨⟨w4,b4⟩,rfl⟩;have hb4:=bel hbr b4;have O0:=bel hb2 hb4;clear CK q0 e0 e1 e2 e3 e4 e5 f1 f2;go_wp2_with fail;first
     | (go_ret
        exact ⟨by rw [HR2.out,hr.out,HS.out,Cm.out];simp,O0⟩)
     | (go_roundw
        case rel=>exact ⟨k + 1,by go_num,hlt,by show _=_;rw [hr.out,HS.out,Cm.out];rfl,hb4⟩
        case measure=>simp [intOf];omega)
  ·have HD:=zC (show x.ss.drop k=[] from List.drop_eq_nil_of_le (by rw [<-bf.out];omega));have hd:decide ((k:Int) < (x.sn:Int))=false:=by simp;omega
   have hd2:decide (k < x.sn)=false:=by simp;omega
   have HR3:=zC (show R=!x.r.any (K.iw x.nd) by rw [HR2.out,hr.out,HD.out];rfl);have hN3:=hN.below hbr;clear hr HD HR2 hlt hk;go_wp2_with fail;clear hd hd2;go_loopw [8] (λv wq=>∃ k:Nat,v=.int .i64 k/\k<=x.m/\Hid (x.r.any (K.iw x.nd)=(x.r.drop k).any (K.iw x.nd))/\Below wr.heap.size wr wq) (λv _=>x.m - (intOf v).toNat)
   case atStart=>exact ⟨0,rfl,Nat.zero_le _,(by show _=_;rw [List.drop_zero]),Below.refl _ _⟩
   case round =>
    obtain ⟨k,rfl,hk,hr,hbq⟩:=hrel;have hbw2:=bel hbw hbq;by_cases hlt:k < x.m
    ·obtain ⟨ad,q,hA,hq,hI,c0,c1,c2,c3,c4,c5,c6⟩:=(hx.aN.below hbw2).at_ hlt;have HS:=zC (lJ (p:=K.iw x.nd) hq);have dL:=hx.b5 q (zD hq);have k0:(0:Int)<=(k:Int):=by omega
     have k1:(k:Int) < (x.m:Int):=by omega
     obtain ⟨ce,hce⟩:=zB (T.right q);have CK:∀ i:ah wr,Calls Tryz.prog 152 #[.agg #[.int .i64 q.node,.int .i64 q.room,.int .i64 q.aF,.int .i64 q.service,.int .i64 q.aB,.int .i64 q.aA,.slice q.A q.n q.c]] i.val λe w'=>e=.returned (.bool ce)/\Below i.val.heap.size i.val w':=λi=>by rw [hce];exact abq q i.val (hI.below i.property) dL
     have q0:=ah.cell (hN3.below hbq).c0;have e0:=ah.cell c0;have e1:=ah.cell c1;have e2:=ah.cell c2;have e3:=ah.cell c3;have e4:=ah.cell c4;have e5:=ah.cell c5;have e6:=ah.cell c6;have sU:=zC (show K.iw x.nd q=(!ce || decide (x.nd<=q.node)) by rw [hce];rfl);clear hq hI hce c0 c1 c2 c3 c4 c5 c6;rw [hA];clear hA;go_upto_region 11 with fail;obtain ⟨z2,hz2⟩:=zB (decide (x.nd<=q.node));have HZ2:=zC hz2.symm;have f2:=hz2.symm;clear hz2;have Cm:=zC (show K.iw x.nd q=(!ce || z2) by rw [sU.out,HZ2.out]);have h5:ce=false\/(ce=true/\z2=true)\/(ce=true/\z2=false):=by cases ce <;> cases z2 <;> simp
     rcases h5 with rfl | ⟨rfl,rfl⟩ | ⟨rfl,rfl⟩
     all_goals
      refine dU (by kernel_rfl) (by kernel_rfl) ?_;repeat (go_big_quiet_step ((go_at_call 152;exact ah.calls (CK _))))
      refine wpQuiet_nil ?_;rintro w4 ⟨⟨w4,b4⟩,rfl⟩;have hb4:=bel hbq b4;have O0:=bel hbw hb4;clear CK q0 e0 e1 e2 e3 e4 e5 e6 f2;go_wp2_with fail;first
       | (go_ret
          exact ⟨by rw [HR3.out,hr.out,HS.out,Cm.out];rfl,O0⟩)
       | (go_roundw
          case rel=>exact ⟨k + 1,by go_num,hlt,by show _=_;rw [hr.out,HS.out,Cm.out];rfl,hb4⟩
          case measure=>simp [intOf];omega)
    ·have HD:=zC (show x.r.drop k=[] from List.drop_eq_nil_of_le (by rw [<-aO.out];omega));have hd:decide ((k:Int) < (x.m:Int))=false:=by simp;omega
     have hd2:decide (k < x.m)=false:=by simp;omega
     go_wp2_with fail;go_ret;exact ⟨by rw [HR3.out,hr.out,HD.out];rfl,hbw2⟩
theorem Ru (x:Cs) (w:World) (hx:bF w x) :
  Calls Tryz.prog 69 #[.agg #[.int .i64 x.nd,.slice x.A x.n x.c],.slice x.SA x.sn x.sc,.slice x.B x.m x.d] w λe w'=>e=.returned (.int .i64 (K.aH x.nd x.l x.ss x.r))/\Below w.heap.size w w':=by
 obtain ⟨P,hP⟩:=zB (K.aH x.nd x.l x.ss x.r);rw [<-hP];have HP:=zC (hP.trans (K.aao _ _ _ _));clear hP;obtain ⟨w1,hw1⟩:=zB (w.alloc (.cells #[.int .i64 x.nd,.slice x.A x.n x.c] 24));have b0:=zA hw1;obtain ⟨G0,hG0⟩:=zB w.heap.size;have hN:Net w1 G0 x.nd x.A x.n x.c:=by rw [hw1,hG0];exact Net.new w x.nd x.A x.n x.c
 have p0:=hN.c0;have p1:=hN.c1;have hmb:=hx.b4;have aO:=zC hx.aN.1;go_enter Tryz.func69,Tryz.ntmps69;go_wp2_with fail;rw [<-hw1,<-hG0];clear hw1 hG0;refine (abp x _ (hx.below b0)).mono ?_;obtain ⟨z,hz⟩:=zB (K.zN x.nd x.l x.ss x.r);rw [<-hz];rw [<-hz] at HP;clear hz;rintro e w2 ⟨rfl,b2⟩;have hb2:=bel b0 b2;clear p0 p1;cases z
 ·have HX:=zC (show P=1 from HP.out);go_wp2_with fail;go_ret;exact ⟨by rw [HX.out];rfl,hb2⟩
 by_cases h6:6 < x.m
 ·have hd:decide ((6:Int) < (x.m:Int))=true:=by simp;omega
  have hd2:decide (6 < x.m)=true:=by simp;omega
  have HX:=zC (show P=6 by rw [HP.out,if_pos rfl,if_pos (by rw [<-aO.out];exact h6)]);clear h6;go_wp2_with fail;go_ret;exact ⟨by rw [HX.out];rfl,hb2⟩
 ·have hd:decide ((6:Int) < (x.m:Int))=false:=by simp;omega
  have hd2:decide (6 < x.m)=false:=by simp;omega
  have HX:=zC (show P=0 by rw [HP.out,if_pos rfl,if_neg (by rw [<-aO.out];exact h6)]);clear h6;go_wp2_with fail;go_ret;exact ⟨by rw [HX.out];rfl,hb2⟩
theorem adx (x:C) (sh:Int) (V:Option Addr) (vn vc:Nat) (v:List Int) (LA:Option Addr) (ln lc:Nat) (l:List Lb) (w:World) (hx:At w x) (hV:Ints w V vn v) (hvn:vn<=1000000000) (hL:dX w LA ln l) (hln:ln<=1000000000) :
  Calls Tryz.prog 90 #[.agg #[.int .i64 x.nd,.slice x.A x.n x.c],.agg #[.int .i64 x.s.day,.int .i64 x.s.ag,.int .i64 x.s.start,.int .i64 x.s.end_,.int .i64 x.s.aj,.slice x.s.A x.s.n x.s.c],.slice x.B x.m x.d,.agg #[.int .i64 sh,.slice V vn vc,.slice LA ln lc]] w λe w'=>e=.returned (.bool (K.blocks x.nd x.l x.s x.r v l))/\Below w.heap.size w w':=by
 obtain ⟨w1,hw1⟩:=zB (w.alloc (.cells #[.int .i64 x.nd,.slice x.A x.n x.c] 24));obtain ⟨w2,hw2⟩:=zB (w1.alloc (.cells #[.int .i64 x.s.day,.int .i64 x.s.ag,.int .i64 x.s.start,.int .i64 x.s.end_,.int .i64 x.s.aj,.slice x.s.A x.s.n x.s.c] 63));obtain ⟨w3,hw3⟩:=zB (w2.alloc (.cells #[.int .i64 sh,.slice V vn vc,.slice LA ln lc] 90));have z1:w1.heap.size=w.heap.size + 1:=by rw [hw1];exact World.size_alloc _ _
 have z2:w2.heap.size=w.heap.size + 1 + 1:=by rw [hw2,World.size_alloc,z1]
 have b01:=zA hw1;have b12:=zA hw2;have bH:=zA hw3;have hP:Net w3 w.heap.size x.nd x.A x.n x.c:=by
  have h1:Net w1 w.heap.size x.nd x.A x.n x.c:=by rw [hw1];exact Net.new _ _ _ _ _
  exact (h1.below b12).below bH
 have hS:aT w3 (w.heap.size + 1) x.s:=by
  have h1:aT w2 (w.heap.size + 1) x.s:=by rw [<-z1,hw2];exact aT.new _ _
  exact h1.below bH
 have hB:w3.heap[w.heap.size + 1 + 1]? = some (.cells #[.int .i64 sh,.slice V vn vc,.slice LA ln lc] 90 (0,0)):=by rw [<-z2,hw3];exact heap_alloc_new _ _
 have hb:=bel (bel b01 b12) bH;have aK:=zC hV.1;go_enter Tryz.func90,Tryz.ntmps90;go_upto_region 1 with fail;rw [<-hw1,<-hw2,<-hw3];clear hw1 hw2 hw3 z1 z2 b01 b12 bH;have hmk:∀ w',Below w3.heap.size w3 w'->(λw':World=>Below w3.heap.size w3 w'/\w'.cell? ⟨w.heap.size,0,none⟩=some (.int .i64 x.nd)/\w'.cell? ⟨w.heap.size,1,none⟩=some (.slice x.A x.n x.c)/\w'.cell? ⟨w.heap.size + 1,0,none⟩=some (.int .i64 x.s.day)/\w'.cell? ⟨w.heap.size + 1,1,none⟩=some (.int .i64 x.s.ag)/\w'.cell? ⟨w.heap.size + 1,2,none⟩=some (.int .i64 x.s.start)/\w'.cell? ⟨w.heap.size + 1,3,none⟩=some (.int .i64 x.s.end_)/\w'.cell? ⟨w.heap.size + 1,4,none⟩=some (.int .i64 x.s.aj)/\w'.cell? ⟨w.heap.size + 1,5,none⟩=some (.slice x.s.A x.s.n x.s.c)/\w'.cell? ⟨w.heap.size + 1 + 1,0,none⟩=some (.int .i64 sh)/\w'.cell? ⟨w.heap.size + 1 + 1,1,none⟩=some (.slice V vn vc)/\w'.cell? ⟨w.heap.size + 1 + 1,2,none⟩=some (.slice LA ln lc)) w':=λw' h=>⟨h,(hP.below h).c0,(hP.below h).c1,(hS.below h).cells.1,(hS.below h).cells.2.1,(hS.below h).cells.2.2.1,(hS.below h).cells.2.2.2.1,(hS.below h).cells.2.2.2.2.1,(hS.below h).cells.2.2.2.2.2,af (az h hB) 0 _ rfl,af (az h hB) 1 _ rfl,af (az h hB) 2 _ rfl⟩;have qo:∀ w',Below w3.heap.size w3 w'->At w' x:=λw' h=>(hx.below hb).below h;have kG:∀ w',Below w3.heap.size w3 w'->Ints w' V vn v:=λw' h=>(hV.below hb).below h;cases jQ:K.aP x.nd x.l x.s x.r v
 ·have HX:=zC (show K.blocks x.nd x.l x.s x.r v l=false by simp [K.blocks,jQ]);have C:∀ j:ah w3,Calls Tryz.prog 130 #[.agg #[.int .i64 x.nd,.slice x.A x.n x.c],.agg #[.int .i64 x.s.day,.int .i64 x.s.ag,.int .i64 x.s.start,.int .i64 x.s.end_,.int .i64 x.s.aj,.slice x.s.A x.s.n x.s.c],.slice x.B x.m x.d,.slice V vn vc] j.val λe w'=>e=.returned (.bool false)/\Below j.val.heap.size j.val w':=λj=>by
   have h:=Kq x V vn vc v j.val (qo _ j.property) (kG _ j.property) hvn;rw [jQ] at h;exact h
  clear jQ qo kG;obtain ⟨-,p0,p1,s0,s1,s2,s3,s4,s5,b0,b1,b2⟩:=hmk _ (Below.refl _ _);have p0:=ah.cell p0;have p1:=ah.cell p1;have s0:=ah.cell s0;have s1:=ah.cell s1;have s2:=ah.cell s2;have s3:=ah.cell s3;have s4:=ah.cell s4;have s5:=ah.cell s5;have b0:=ah.cell b0;have b1:=ah.cell b1;have b2:=ah.cell b2;clear hmk;refine dU (by kernel_rfl) (by kernel_rfl) ?_;repeat (go_big_quiet_step ((go_at_call 130;exact ah.calls (C _))))
  refine wpQuiet_nil ?_;rintro w4 ⟨⟨_,eF⟩,rfl⟩;go_wp2_with fail;go_ret;exact ⟨ay HX.out.symm,bel hb eF⟩
 have hv6:vn<=6:=by rw [hV.1];exact (K.fU jQ).2.2.2.2.1
 have aJ:=zC jQ;have SK:=zC (show ∀ j:ah w3,Calls Tryz.prog 130 #[.agg #[.int .i64 x.nd,.slice x.A x.n x.c],.agg #[.int .i64 x.s.day,.int .i64 x.s.ag,.int .i64 x.s.start,.int .i64 x.s.end_,.int .i64 x.s.aj,.slice x.s.A x.s.n x.s.c],.slice x.B x.m x.d,.slice V vn vc] j.val λe w'=>e=.returned (.bool true)/\Below j.val.heap.size j.val w' from λj=>by
   have h:=Kq x V vn vc v j.val (qo _ j.property) (kG _ j.property) hvn;rw [jQ] at h;exact h)
 clear jQ;cases hv0:((vn:Int) == 0);rotate_left
 ·have h0:vn=0:=by simpa using hv0
  have afN:(vn == 0)=true:=by simp [h0]
  have HX:=zC (show K.blocks x.nd x.l x.s x.r v l=false by
   have h1:v.length=0:=by rw [<-aK.out];exact h0
   simp [K.blocks,h1])
  have C:=SK.out;clear qo kG h0;obtain ⟨-,p0,p1,s0,s1,s2,s3,s4,s5,b0,b1,b2⟩:=hmk _ (Below.refl _ _);have p0:=ah.cell p0;have p1:=ah.cell p1;have s0:=ah.cell s0;have s1:=ah.cell s1;have s2:=ah.cell s2;have s3:=ah.cell s3;have s4:=ah.cell s4;have s5:=ah.cell s5;have b0:=ah.cell b0;have b1:=ah.cell b1;have b2:=ah.cell b2;clear hmk;refine dU (by kernel_rfl) (by kernel_rfl) ?_;repeat (go_big_quiet_step ((go_at_call 130;exact ah.calls (C _))))
  refine wpQuiet_nil ?_;rintro w4 ⟨⟨_,eF⟩,rfl⟩;go_wp2_with fail;go_ret;exact ⟨ay HX.out.symm,bel hb eF⟩
 have afN:(vn == 0)=false:=by have:¬ vn=0:=by simpa using hv0
                              simpa using this
 have qR:=zC (show ¬ vn=0 by simpa using hv0);have S0:=hmk _ (Below.refl _ _);have hSd:∀ w',(λw':World=>Below w3.heap.size w3 w'/\w'.cell? ⟨w.heap.size,0,none⟩=some (.int .i64 x.nd)/\w'.cell? ⟨w.heap.size,1,none⟩=some (.slice x.A x.n x.c)/\w'.cell? ⟨w.heap.size + 1,0,none⟩=some (.int .i64 x.s.day)/\w'.cell? ⟨w.heap.size + 1,1,none⟩=some (.int .i64 x.s.ag)/\w'.cell? ⟨w.heap.size + 1,2,none⟩=some (.int .i64 x.s.start)/\w'.cell? ⟨w.heap.size + 1,3,none⟩=some (.int .i64 x.s.end_)/\w'.cell? ⟨w.heap.size + 1,4,none⟩=some (.int .i64 x.s.aj)/\w'.cell? ⟨w.heap.size + 1,5,none⟩=some (.slice x.s.A x.s.n x.s.c)/\w'.cell? ⟨w.heap.size + 1 + 1,0,none⟩=some (.int .i64 sh)/\w'.cell? ⟨w.heap.size + 1 + 1,1,none⟩=some (.slice V vn vc)/\w'.cell? ⟨w.heap.size + 1 + 1,2,none⟩=some (.slice LA ln lc)) w'->(λw':World=>Below w3.heap.size w3 w'/\w'.cell? ⟨w.heap.size,0,none⟩=some (.int .i64 x.nd)/\w'.cell? ⟨w.heap.size,1,none⟩=some (.slice x.A x.n x.c)/\w'.cell? ⟨w.heap.size + 1,0,none⟩=some (.int .i64 x.s.day)/\w'.cell? ⟨w.heap.size + 1,1,none⟩=some (.int .i64 x.s.ag)/\w'.cell? ⟨w.heap.size + 1,2,none⟩=some (.int .i64 x.s.start)/\w'.cell? ⟨w.heap.size + 1,3,none⟩=some (.int .i64 x.s.end_)/\w'.cell? ⟨w.heap.size + 1,4,none⟩=some (.int .i64 x.s.aj)/\w'.cell? ⟨w.heap.size + 1,5,none⟩=some (.slice x.s.A x.s.n x.s.c)/\w'.cell? ⟨w.heap.size + 1 + 1,0,none⟩=some (.int .i64 sh)/\w'.cell? ⟨w.heap.size + 1 + 1,1,none⟩=some (.slice V vn vc)/\w'.cell? ⟨w.heap.size + 1 + 1,2,none⟩=some (.slice LA ln lc)) w'.drew:=λw' h=>hmk _ h.1.drew;have hLx:∀ w',Below w3.heap.size w3 w'->dX w' LA ln l:=λw' h=>aQ.below hL (bel hb h)
 go_region_held3 (λw':World=>Below w3.heap.size w3 w'/\w'.cell? ⟨w.heap.size,0,none⟩=some (.int .i64 x.nd)/\w'.cell? ⟨w.heap.size,1,none⟩=some (.slice x.A x.n x.c)/\w'.cell? ⟨w.heap.size + 1,0,none⟩=some (.int .i64 x.s.day)/\w'.cell? ⟨w.heap.size + 1,1,none⟩=some (.int .i64 x.s.ag)/\w'.cell? ⟨w.heap.size + 1,2,none⟩=some (.int .i64 x.s.start)/\w'.cell? ⟨w.heap.size + 1,3,none⟩=some (.int .i64 x.s.end_)/\w'.cell? ⟨w.heap.size + 1,4,none⟩=some (.int .i64 x.s.aj)/\w'.cell? ⟨w.heap.size + 1,5,none⟩=some (.slice x.s.A x.s.n x.s.c)/\w'.cell? ⟨w.heap.size + 1 + 1,0,none⟩=some (.int .i64 sh)/\w'.cell? ⟨w.heap.size + 1 + 1,1,none⟩=some (.slice V vn vc)/\w'.cell? ⟨w.heap.size + 1 + 1,2,none⟩=some (.slice LA ln lc))
  (first | assumption | exact S0 | exact hSd _ (by assumption))
  (first
   | (go_at_call 130;refine (SK.out ⟨_,And.left (by assumption)⟩).mono ?_;rintro e w4 ⟨rfl,bb⟩;have S4:=hmk _ (bel (And.left (by assumption)) bb))
   | (go_at_call 82;refine (agp x V vn vc v _ (qo _ S4.1) (kG _ S4.1) hvn).mono ?_;rintro e w6 ⟨⟨A6,n6,c6,rfl,gV⟩,b6⟩;have S6:=hmk _ (bel S4.1 b6))
   | (go_at_call 83;refine (abA LA A6 ln n6 lc c6 l (K.aS x.nd x.l x.s x.r v) w6 (hLx _ S6.1) gV hln (by rw [gV.1];exact Nat.le_trans (K.Qz _ _ _ _ _) (by omega))).mono ?_;rintro e w7 ⟨rfl,b7⟩;have S7:=hmk _ (bel S6.1 b7))
   | fail)
 obtain ⟨z,hz⟩:=zB (decide (l=K.aS x.nd x.l x.s x.r v));rw [<-hz];have HZ:=zC hz;have ru:=S7.1;have hP:=hP.below ru;have hS:=hS.below ru;have hB:=az ru hB;have hb7:=bel hb ru;clear S0 S4 S6 S7 hSd hmk qo kG hLx gV bb b6 b7 hz ru;cases z
 ·have HX:=zC (show K.blocks x.nd x.l x.s x.r v l=false by unfold K.blocks;rw [<-HZ.out];simp);go_wp2_with fail;go_ret;exact ⟨ay HX.out.symm,hb7⟩
 have hll:l=K.aS x.nd x.l x.s x.r v:=of_decide_eq_true HZ.out.symm;obtain ⟨N,hN⟩:∃ N,N=2 ^ vn:=⟨_,rfl⟩;have hN1:1<=N:=by rw [hN];exact Nat.two_pow_pos vn
 have DT:N<=64:=by rw [hN];exact Nat.pow_le_pow_right (by omega) hv6
 have hw1:IntKind.i64.wrap ((2:Int) ^ vn)=(N:Int):=by rw [pz (by omega),hN];simp
 have hw2:wrap64 ((2:Int) ^ vn)=(N:Int):=by rw [<-IntWalk.i64_left];exact hw1
 have tq:=zC hN;have HW1:=zC hw1;have HW2:=zC hw2;clear hN hw1 hw2;obtain ⟨al,hal⟩:=zB (N - 1);have HW3:=zC (show IntKind.i64.wrap ((N:Int) - 1)=(al:Int) by rw [IntWalk.i64_in _ (by omega)];omega);have HW4:=zC (show wrap64 ((N:Int) - 1)=(al:Int) by rw [<-IntWalk.i64_left];exact HW3.out);have qN:=zC (show al=2 ^ v.length - 1 by rw [hal,tq.out,aK.out]);have HX:=zC (show K.blocks x.nd x.l x.s x.r v l=!((l.drop 0).any (K.opensAt x.nd x.l x.s x.r v al)) by
  unfold K.blocks;rw [<-HZ.out,aJ.out,qN.out,List.drop_zero];have h0:(v.length == 0)=false:=by have:=qR.out;rw [aK.out] at this;simpa using this
  rw [h0];simp)
 have CX:=zC hll;clear hll hal;obtain ⟨s0,s1,s2,s3,s4,s5⟩:=hS.cells;have e1:=af hB 1 _ rfl;go_wp2_with fail;refine (Ky x.s x.B x.m x.d x.r V vn vc v _ (hx.below hb7).g_ hx.b2 (hx.below hb7).aN hx.b3 hx.b4 (hV.below hb7) hvn).mono ?_;obtain ⟨wt,hwt⟩:=zB (T.weight x.s x.r v);rw [<-hwt];rintro e w8 ⟨rfl,oz⟩;have vS:=zC hwt;have hP:=hP.below oz;have hS:=hS.below oz;have hB:=az oz hB;have hb8:=bel hb7 oz;clear s0 s1 s2 s3 s4 s5 e1 hwt;obtain ⟨hne,hck,hdp,-,-,-⟩:=K.fU aJ.out;obtain ⟨-,⟨d0,-⟩,st0,st1,pX⟩:=K.pW hck;obtain ⟨dp,Pv⟩:∃ dp:Nat,x.s.ag=(dp:Int):=⟨x.s.ag.toNat,by omega⟩;have kQ:=zC hne;have Gm:=zC Pv;have ae7:(dp:Int) < x.nd:=by rw [<-Pv];exact hdp
 clear hne hck hdp Pv d0;go_wp2_with fail;go_loopw [10] (λv10 wr=>∃ k:Nat,v10=.int .i64 k/\k<=ln/\Hid (K.blocks x.nd x.l x.s x.r v l=!((l.drop k).any (K.opensAt x.nd x.l x.s x.r v al)))/\Below w8.heap.size w8 wr) (λv10 _=>ln - (intOf v10).toNat)
 case atStart=>exact ⟨0,rfl,Nat.zero_le _,HX.out,Below.refl _ _⟩
 case round =>
  clear HX;obtain ⟨k,rfl,hk,hbk,hbr⟩:=hrel;have hb:=bel hb8 hbr;have b2:=af (az hbr hB) 2 _ rfl;by_cases hlt:k < ln
  ·obtain ⟨adk,y,rfl,PG,c0,c1,c2⟩:=dX.at_ (aQ.below hL hb) hlt;have SI:=zC (show K.blocks x.nd x.l x.s x.r v l=!(K.opensAt x.nd x.l x.s x.r v al y || (l.drop (k + 1)).any (K.opensAt x.nd x.l x.s x.r v al)) by rw [hbk.out,lJ PG]);obtain ⟨m,i,hm,hi,hbit,hy⟩:=K.ZG aJ.out (by rw [<-CX.out];exact zD PG);subst hy;dsimp only at c0 c1 c2;rw [<-aK.out] at hi;have hLb:=K.ET (nd:=x.nd) (l:=x.l) (s:=x.s) (r:=x.r) (K.oC aJ.out) m i;obtain ⟨L,hL'⟩:=zB (K.lab x.nd x.l x.s x.r v m i);have K_:=SI.out;rw [<-hL'] at c2 hLb K_;have xH:=zC K_;clear PG hm hbit SI K_ hL';obtain ⟨iM,kv,rfl,hkv,ci⟩:=(hV.below hb).at_ hi;obtain ⟨d,dn,q,hkd,hd,Be,y9,hdn,Pq,qs0,qs1⟩:=VF aJ.out hkv;subst hkd;have hdm:d < x.m:=by rw [hx.aN.1];exact hd
   obtain ⟨wu,q2,rZ,hgq,hwq,e0,-⟩:=((hx.below hb).aN).at_ hdm;rw [Be] at hgq;injection hgq with hgq;subst hgq;rw [hdn] at e0;obtain ⟨y,hy⟩:=zB (K.way x.nd x.l (dn:Int) wt (dp:Int));have hyb:=K.iJ x.nd x.l (dn:Int) wt (dp:Int);rw [<-hy] at hyb;have HY:=zC hy;have Aa:=zC (show K.opensAt x.nd x.l x.s x.r v al ⟨m,i,L⟩=(((m:Int) == (al:Int)) && ((L != -1) && ((y != -1) && decide (L + y<=x.s.end_)))) by
    unfold K.opensAt;dsimp only;rw [Int.toNat_natCast,hkv,Option.getD_some,y9,hdn,qN.out,K.QZ,<-vS.out,Gm.out,<-hy];rfl)
   obtain ⟨w9,uI⟩:=zB (wr.alloc (.cells #[.int .i64 (m:Int),.int .i64 (i:Int),.int .i64 L] 167));have b9:=zA uI;have I4:w9.heap[wr.heap.size]? = some (.cells #[.int .i64 (m:Int),.int .i64 (i:Int),.int .i64 L] 167 (0,0)):=by rw [uI];exact heap_alloc_new _ _
   have Ec:=bel hbr b9;have bU:=bel hb8 Ec;have ci:=(b9.cell (cell_lt ci)).trans ci;have e0:=(b9.cell (cell_lt e0)).trans e0;have EO:(0:Int)<=(k:Int):=by omega
   have BI:(k:Int) < (ln:Int):=by omega
   have Qv:decide ((k:Int) < (ln:Int))=true:=zH BI;have Y4:decide (k < ln)=true:=zH hlt;have tu:=zC rZ;have sV:=zC (show (d:Int) < (x.m:Int) by omega);clear hy hkv hd Be y9 hdn rZ hwq qs0 qs1 hdm;go_upto_region 8 with fail;rw [<-uI];clear uI c0 c1 c2 b2 EO BI Qv Y4;have l0:=af I4 0 _ rfl;have l1:=af I4 1 _ rfl;have l2:=af I4 2 _ rfl;have kF:=az Ec hB;have f1:=af kF 1 _ rfl;have f2:=af kF 2 _ rfl;have hw1:=HW1.out;have hw2:=HW2.out;have hw3:=HW3.out;have hw4:=HW4.out;cases hma:((m:Int) == (al:Int))
   ·have HN:=zC (show K.blocks x.nd x.l x.s x.r v l=!((l.drop (k + 1)).any (K.opensAt x.nd x.l x.s x.r v al)) by rw [xH.out,Aa.out,hma];rfl)
    have X7:(m == al)=false:=by have:¬ (m:Int)=(al:Int):=by simpa using hma
                                simp;omega
    clear xH Aa;go_quiet (fail);clear hw1 hw2 hw3 hw4;go_wp2_with fail;go_roundw
    case rel=>exact ⟨k + 1,by go_num,hlt,HN.out,below_drewN Ec _⟩
    case measure=>simp [intOf];omega
   have X7:(m == al)=true:=by have:(m:Int)=(al:Int):=by simpa using hma
                              simp;omega
   by_cases hL0:0<=L;rotate_left
   ·have g1:decide (0<=L)=false:=zI hL0;have HN:=zC (show K.blocks x.nd x.l x.s x.r v l=!((l.drop (k + 1)).any (K.opensAt x.nd x.l x.s x.r v al)) by
     have h1:(L != -1)=false:=by have:L=-1:=by omega
                                 simp [this]
     rw [xH.out,Aa.out,h1];simp)
    clear xH Aa;go_quiet (fail);clear hw1 hw2 hw3 hw4;go_wp2_with fail;go_roundw
    case rel=>exact ⟨k + 1,by go_num,hlt,HN.out,below_drewN Ec _⟩
    case measure=>simp [intOf];omega
   have g1:decide (0<=L)=true:=zH hL0
   have h1:(L != -1)=true:=by have:¬ L=-1:=by omega
                              simpa using this
   have TC:=zC (show K.opensAt x.nd x.l x.s x.r v al ⟨m,i,L⟩=((y != -1) && decide (L + y<=x.s.end_)) by rw [Aa.out,hma,h1];rfl);clear Aa h1;go_quiet (fail);obtain ⟨wa,nI⟩:=zB (w9.drewN nq);rw [<-nI];have wE:Below w9.heap.size w9 wa:=by rw [nI];exact below_drewN (Below.refl _ _) _
   clear nI hw1 hw2 hw3 hw4 l0 l1 l2 f1 f2 hma X7 g1;go_upto_region 9 with fail;have Ed:=bel Ec wE;have Xt:=az wE I4;have l1:=af Xt 1 _ rfl;have f1:=af (az wE kF) 1 _ rfl;have ci:=(wE.cell (cell_lt ci)).trans ci;have e0:=(wE.cell (cell_lt e0)).trans e0;have p0:=(hP.below Ed).c0;have p1:=(hP.below Ed).c1;have dw:=hS.below Ed;have s1:=dw.cells.2.1;rw [Gm.out] at s1;have SD:∀ w',Below wa.heap.size wa w'->w'.cell? ⟨w.heap.size + 1,1,none⟩=some (.int .i64 (dp:Int)):=λw' h=>(h.cell (cell_lt s1)).trans s1;have jO:∀ w',Below wa.heap.size wa w'->jf w' x.A x.n x.l:=λw' h=>aQ.below ((hx.below (bel hb8 Ed)).net) h;have Qw:(0:Int)<=(i:Int):=by omega
   have kk4:(i:Int) < (vn:Int):=by omega
   have Y5:(0:Int)<=(d:Int):=by omega
   have Y6:(d:Int) < (x.m:Int):=sV.out;have ae5:(0:Int)<=(dn:Int):=by omega
   have akt:(0:Int)<=(dp:Int):=by omega
   rw [tu.out];have mD:∀ w',Below wa.heap.size wa w'->(λw':World=>Below wa.heap.size wa w'/\w'.cell? ⟨w.heap.size,0,none⟩=some (.int .i64 x.nd)/\w'.cell? ⟨w.heap.size,1,none⟩=some (.slice x.A x.n x.c)/\w'.cell? ⟨w.heap.size + 1 + 1,1,none⟩=some (.slice (some iM) vn vc)/\w'.cell? ⟨wr.heap.size,1,none⟩=some (.int .i64 (i:Int))/\w'.cell? (iM.add i)=some (.int .i64 (d:Int))/\w'.cell? (wu.add (d * 7))=some (.int .i64 (dn:Int))/\w'.cell? ⟨w.heap.size + 1,1,none⟩=some (.int .i64 (dp:Int))) w':=λw' h=>⟨h,(h.cell (cell_lt p0)).trans p0,(h.cell (cell_lt p1)).trans p1,(h.cell (cell_lt f1)).trans f1,(h.cell (cell_lt l1)).trans l1,(h.cell (cell_lt ci)).trans ci,(h.cell (cell_lt e0)).trans e0,(h.cell (cell_lt s1)).trans s1⟩;have aW:=mD _ (Below.refl wa.heap.size wa).drew;clear p0 p1 f1 l1 ci e0 s1 SD dw;refine wp_region_held_drew (S:=(λw':World=>Below wa.heap.size wa w'/\w'.cell? ⟨w.heap.size,0,none⟩=some (.int .i64 x.nd)/\w'.cell? ⟨w.heap.size,1,none⟩=some (.slice x.A x.n x.c)/\w'.cell? ⟨w.heap.size + 1 + 1,1,none⟩=some (.slice (some iM) vn vc)/\w'.cell? ⟨wr.heap.size,1,none⟩=some (.int .i64 (i:Int))/\w'.cell? (iM.add i)=some (.int .i64 (d:Int))/\w'.cell? (wu.add (d * 7))=some (.int .i64 (dn:Int))/\w'.cell? ⟨w.heap.size + 1,1,none⟩=some (.int .i64 (dp:Int)))) (by kernel_rfl) aW (λhHeld=>?_);refine wpAnyH_take (i:=0) (oi:=?_) (v:=?_) ?_ (by kernel_rfl) (by kernel_rfl) (by kernel_rfl) ?_ ?_ (by assumption) ?_;rotate_left 2
   ·(simp only [List.getElem?_toArray,List.getElem?_cons_zero];rfl)
   rotate_left
   ·(refine Or.inl ⟨by rfl,?_⟩;intro w hSw;(try dsimp only at hSw);go_simp;(try with_reducible rfl))
   rotate_left
   ·exact λ_ _ _ h=>h
   try simp only [Act.put,List.setIfInBounds_toArray,List.set_cons_zero,List.set_cons_succ]
   refine wpAnyH_take (i:=1) (oi:=?_) (v:=?_) ?_ (by kernel_rfl) (by kernel_rfl) (by kernel_rfl) ?_ ?_ (by assumption) ?_;rotate_left 2
   ·(simp only [List.getElem?_toArray,List.getElem?_cons_succ,List.getElem?_cons_zero];rfl)
   rotate_left
   ·(refine Or.inl ⟨by rfl,?_⟩;intro w hSw;(try dsimp only at hSw);go_simp;(try with_reducible rfl))
   rotate_left
   ·exact λ_ _ _ h=>h
   try simp only [Act.put,List.setIfInBounds_toArray,List.set_cons_zero,List.set_cons_succ]
   refine wpAnyH_take (i:=2) (oi:=?_) (v:=?_) ?_ (by kernel_rfl) (by kernel_rfl) (by kernel_rfl) ?_ ?_ (by assumption) ?_;rotate_left 2
   ·(simp only [List.getElem?_toArray,List.getElem?_cons_succ,List.getElem?_cons_zero];rfl)
   rotate_left
   ·(refine Or.inl ⟨by rfl,?_⟩;intro w hSw;(try dsimp only at hSw);go_simp;(try with_reducible rfl))
   rotate_left
   ·exact λ_ _ _ h=>h
   try simp only [Act.put,List.setIfInBounds_toArray,List.set_cons_zero,List.set_cons_succ]
   refine wpAnyH_take (i:=3) (oi:=?_) (v:=?_) ?_ (by kernel_rfl) (by kernel_rfl) (by kernel_rfl) ?_ ?_ (by assumption) ?_;rotate_left 2
   ·(simp only [List.getElem?_toArray,List.getElem?_cons_succ,List.getElem?_cons_zero];rfl)
   rotate_left
   ·(refine Or.inl ⟨by rfl,?_⟩;intro w hSw;(try dsimp only at hSw);go_simp;(try with_reducible rfl))
   rotate_left
   ·exact λ_ _ _ h=>h
   try simp only [Act.put,List.setIfInBounds_toArray,List.set_cons_zero,List.set_cons_succ]
   refine wpAnyH_take (i:=4) (oi:=?_) (v:=?_) ?_ (by kernel_rfl) (by kernel_rfl) (by kernel_rfl) ?_ ?_ (by assumption) ?_;rotate_left 2
   ·(simp only [List.getElem?_toArray,List.getElem?_cons_succ,List.getElem?_cons_zero];rfl)
   rotate_left
   ·(refine Or.inl ⟨by rfl,?_⟩;intro w hSw;(try dsimp only at hSw);go_simp;(try with_reducible rfl))
   rotate_left
   ·exact λ_ _ _ h=>h
   try simp only [Act.put,List.setIfInBounds_toArray,List.set_cons_zero,List.set_cons_succ]
   refine wpAnyH_take (i:=5) (oi:=?_) (v:=?_) ?_ (by kernel_rfl) (by kernel_rfl) (by kernel_rfl) ?_ ?_ (by assumption) ?_;rotate_left 2
   ·(simp only [List.getElem?_toArray,List.getElem?_cons_succ,List.getElem?_cons_zero];rfl)
   rotate_left
   ·(refine Or.inl ⟨by rfl,?_⟩;intro w hSw;(try dsimp only at hSw);go_simp;(try with_reducible rfl))
   rotate_left
   ·exact λ_ _ _ h=>h
   try simp only [Act.put,List.setIfInBounds_toArray,List.set_cons_zero,List.set_cons_succ]
   refine wpAnyH_take (i:=6) (oi:=?_) (v:=?_) ?_ (by kernel_rfl) (by kernel_rfl) (by kernel_rfl) ?_ ?_ (by assumption) ?_;rotate_left 2
   ·(simp only [List.getElem?_toArray,List.getElem?_cons_succ,List.getElem?_cons_zero];rfl)
   rotate_left
   ·(refine Or.inl ⟨by rfl,?_⟩;intro w hSw;(try dsimp only at hSw);go_simp;(try with_reducible rfl))
   rotate_left
   ·exact λ_ _ _ h=>h
   try simp only [Act.put,List.setIfInBounds_toArray,List.set_cons_zero,List.set_cons_succ]
   refine wpAnyH_take (i:=7) (oi:=?_) (v:=?_) ?_ (by kernel_rfl) (by kernel_rfl) (by kernel_rfl) ?_ ?_ (by assumption) ?_;rotate_left 2
   ·(simp only [List.getElem?_toArray,List.getElem?_cons_succ,List.getElem?_cons_zero];rfl)
   rotate_left
   ·(refine Or.inl ⟨by rfl,?_⟩;intro w hSw;(try dsimp only at hSw);go_simp;(try with_reducible rfl))
   rotate_left
   ·exact λ_ _ _ h=>h
   try simp only [Act.put,List.setIfInBounds_toArray,List.set_cons_zero,List.set_cons_succ]
   refine wpAnyH_take (i:=8) (oi:=?_) (v:=?_) ?_ (by kernel_rfl) (by kernel_rfl) (by kernel_rfl) ?_ ?_ (by assumption) ?_;rotate_left 2
   ·(simp only [List.getElem?_toArray,List.getElem?_cons_succ,List.getElem?_cons_zero];rfl)
   rotate_left
   ·(refine Or.inl ⟨by rfl,?_⟩;intro w hSw;(try dsimp only at hSw);go_simp;(try with_reducible rfl))
   rotate_left
   ·exact λ_ _ _ h=>h
   try simp only [Act.put,List.setIfInBounds_toArray,List.set_cons_zero,List.set_cons_succ]
   refine wpAnyH_take (i:=9) (oi:=?_) (v:=?_) ?_ (by kernel_rfl) (by kernel_rfl) (by kernel_rfl) ?_ ?_ (by assumption) ?_;rotate_left 2
   ·(simp only [List.getElem?_toArray,List.getElem?_cons_succ,List.getElem?_cons_zero];rfl)
   rotate_left
   ·(refine Or.inl ⟨by rfl,?_⟩;intro w hSw;(try dsimp only at hSw);go_simp;(try with_reducible rfl))
   rotate_left
   ·exact λ_ _ _ h=>h
   try simp only [Act.put,List.setIfInBounds_toArray,List.set_cons_zero,List.set_cons_succ]
   refine wpAnyH_take (i:=10) (oi:=?_) (v:=?_) ?_ (by kernel_rfl) (by kernel_rfl) (by kernel_rfl) ?_ ?_ (by assumption) ?_;rotate_left 2
   ·(simp only [List.getElem?_toArray,List.getElem?_cons_succ,List.getElem?_cons_zero];rfl)
   rotate_left
   ·(refine Or.inl ⟨by rfl,?_⟩;intro w hSw;(try dsimp only at hSw);go_simp;(try with_reducible rfl))
   rotate_left
   ·exact λ_ _ _ h=>h
   try simp only [Act.put,List.setIfInBounds_toArray,List.set_cons_zero,List.set_cons_succ]
   refine wpAnyH_take (i:=11) (oi:=?_) (v:=?_) ?_ (by kernel_rfl) (by kernel_rfl) (by kernel_rfl) ?_ ?_ (by assumption) ?_;rotate_left 2
   ·(simp only [List.getElem?_toArray,List.getElem?_cons_succ,List.getElem?_cons_zero];rfl)
   rotate_left
   ·(refine Or.inl ⟨by rfl,?_⟩;intro w hSw;(try dsimp only at hSw);go_simp;(try with_reducible rfl))
   rotate_left
   ·exact λ_ _ _ h=>h
   try simp only [Act.put,List.setIfInBounds_toArray,List.set_cons_zero,List.set_cons_succ]
   refine wpAnyH_take (i:=13) (oi:=?_) (v:=?_) ?_ (by kernel_rfl) (by kernel_rfl) (by kernel_rfl) ?_ ?_ (by assumption) ?_;rotate_left 2
   ·(simp only [List.getElem?_toArray,List.getElem?_cons_succ,List.getElem?_cons_zero];rfl)
   rotate_left
   ·(refine Or.inl ⟨by rfl,?_⟩;intro w hSw;(try dsimp only at hSw);go_simp;(try with_reducible rfl))
   rotate_left
   ·exact λ_ _ _ h=>h
   try simp only [Act.put,List.setIfInBounds_toArray,List.set_cons_zero,List.set_cons_succ]
   refine wpAnyH_take (i:=14) (oi:=?_) (v:=?_) ?_ (by kernel_rfl) (by kernel_rfl) (by kernel_rfl) ?_ ?_ (by assumption) ?_;rotate_left 2
   ·(simp only [List.getElem?_toArray,List.getElem?_cons_succ,List.getElem?_cons_zero];rfl)
   rotate_left
   ·(refine Or.inl ⟨by rfl,?_⟩;intro w hSw;(try dsimp only at hSw);go_simp;(try with_reducible rfl))
   rotate_left
   ·exact λ_ _ _ h=>h
   try simp only [Act.put,List.setIfInBounds_toArray,List.set_cons_zero,List.set_cons_succ]
   refine wpAnyH_ready (rs:=[12]) (by kernel_rfl) (by simp) ?_;refine AllReadyH.cons (o:=?_) ?_ (λK hK=>?_) AllReadyH.nil;rotate_left
   ·(simp only [List.getElem?_toArray,List.getElem?_cons_succ,List.getElem?_cons_zero];rfl)
   go_simp;refine (Kw x.nd x.A x.n x.c x.l (dn:Int) wt _ (jO _ (Below.refl _ _).drew) hx.b1).mono ?_;rintro e wy ⟨⟨TA,yn,yc,rfl,yN⟩,wH⟩;obtain ⟨Hg,rfl,cy,j4⟩:=Si yN kQ.out ⟨ae5,Pq⟩ ae7;rw [<-HY.out] at cy;have Nl:Below wa.heap.size wa wy:=bel (Below.refl _ _).drew wH;have S1:=mD _ Nl;try dsimp only
   refine hK.out _ _ S1 (λhHeld=>?_);clear hK K;try simp only [Act.put,List.setIfInBounds_toArray,List.set_cons_zero,List.set_cons_succ]
   refine wpAnyH_take (i:=15) (oi:=?_) (v:=?_) ?_ (by kernel_rfl) (by kernel_rfl) (by kernel_rfl) ?_ ?_ (by assumption) ?_;rotate_left 2
   ·(simp only [List.getElem?_toArray,List.getElem?_cons_succ,List.getElem?_cons_zero];rfl)
   rotate_left
   ·(refine Or.inl ⟨by rfl,?_⟩;intro w hSw;(try dsimp only at hSw);go_simp;(try with_reducible rfl))
   rotate_left
   ·exact λ_ _ _ h=>h
   try simp only [Act.put,List.setIfInBounds_toArray,List.set_cons_zero,List.set_cons_succ]
   refine wpAnyH_ready (rs:=[16]) (by kernel_rfl) (by simp) ?_;refine AllReadyH.cons (o:=?_) ?_ (λK hK=>?_) AllReadyH.nil;rotate_left
   ·(simp only [List.getElem?_toArray,List.getElem?_cons_succ,List.getElem?_cons_zero];rfl)
   go_simp;try dsimp only
   refine hK.out _ _ S1 (λhHeld=>?_);clear hK K;try simp only [Act.put,List.setIfInBounds_toArray,List.set_cons_zero,List.set_cons_succ]
   refine wpAnyH_take (i:=17) (oi:=?_) (v:=?_) ?_ (by kernel_rfl) (by kernel_rfl) (by kernel_rfl) ?_ ?_ (by assumption) ?_;rotate_left 2
   ·(simp only [List.getElem?_toArray,List.getElem?_cons_succ,List.getElem?_cons_zero];rfl)
   rotate_left
   ·(refine Or.inl ⟨by rfl,?_⟩;intro w hSw;(try dsimp only at hSw);go_simp;(try with_reducible rfl))
   rotate_left
   ·exact λ_ _ _ h=>h
   try simp only [Act.put,List.setIfInBounds_toArray,List.set_cons_zero,List.set_cons_succ]
   refine wpAnyH_done (by kernel_rfl) ?_ _;clear aW S1 mD jO cy yN wH j4;have XG:Below w8.heap.size w8 wy:=bel Ed Nl;have ae3:=bel hb8 XG;have l2:=af (az Nl Xt) 2 _ rfl;have s3:=((hS.below XG).cells).2.2.2.1;by_cases hy0:0<=y;rotate_left
   ·have g2:decide (0<=y)=false:=zI hy0;have HN:=zC (show K.blocks x.nd x.l x.s x.r v l=!((l.drop (k + 1)).any (K.opensAt x.nd x.l x.s x.r v al)) by
     have h1:(y != -1)=false:=by have:y=-1:=by omega
                                 simp [this]
     rw [xH.out,TC.out,h1];simp)
    go_wp2_with fail;rw [<-tu.out];go_roundw
    case rel=>(go_light;exact ⟨_,_,⟨k + 1,rfl,hlt,HN.out⟩,rfl,rfl,by go_num,rfl⟩)
    case measure=>(go_light;simp [intOf] <;> omega)
   have g2:decide (0<=y)=true:=zH hy0;have hsum:IntKind.i64.wrap (L + y)=L + y:=IntWalk.i64_in _ (by omega);have afF:wrap64 (L + y)=L + y:=by rw [<-IntWalk.i64_left];exact hsum
   have h1:(y != -1)=true:=by have:¬ y=-1:=by omega
                              simpa using this
   have TD:=zC (show K.opensAt x.nd x.l x.s x.r v al ⟨m,i,L⟩=decide (L + y<=x.s.end_) by rw [TC.out,h1];rfl);clear h1;by_cases hle:L + y<=x.s.end_
   ·have g3:decide (L + y<=x.s.end_)=true:=zH hle;have HN:=zC (show K.blocks x.nd x.l x.s x.r v l=false by rw [xH.out,TD.out,g3];rfl);go_wp2_with fail;go_ret;exact ⟨ay HN.out.symm,ae3⟩
   ·have g3:decide (L + y<=x.s.end_)=false:=zI hle;have HN:=zC (show K.blocks x.nd x.l x.s x.r v l=!((l.drop (k + 1)).any (K.opensAt x.nd x.l x.s x.r v al)) by rw [xH.out,TD.out,g3];rfl);go_wp2_with fail;clear hsum afF;rw [<-tu.out];go_roundw
    case rel=>(go_light;exact ⟨_,_,⟨k + 1,rfl,hlt,HN.out⟩,rfl,rfl,by go_num,rfl⟩)
    case measure=>(go_light;simp [intOf] <;> omega)
  ·have HN:=zC (show K.blocks x.nd x.l x.s x.r v l=true by rw [hbk.out,List.drop_eq_nil_of_le (by rw [<-hL.1];omega)];rfl);have Qv:decide ((k:Int) < (ln:Int))=false:=by simp;omega
   have Y4:decide (k < ln)=false:=by simp;omega
   go_wp2_with fail;go_ret;exact ⟨ay HN.out.symm,hb⟩
def K.nat (d:List Nat):List Int:=d.map λ(x:Nat)=>(x:Int)
def acC (w w':World) (l:List Int) (e:Ending):Prop:=(∃ A n c,e=.returned (.slice A n c)/\Ints w' A n l/\n<=c)/\Below w.heap.size w w'
theorem Fq {w:World} {base:Nat} {e:TypeId} {size n n' c:Nat} {A:Option Addr} {xs:List Value} (h:w.ownsRow base e size (.slice A n' c) n xs):n'<=c:=by
 obtain ⟨hl,⟨h1,h2⟩ | ⟨g,cap,cur,h1,h2,h3,h4,h5⟩⟩:=h
 ·injection h1 with e1 e2 e3;omega
 ·injection h1 with e1 e2 e3;omega
theorem K.ag0 {d:List Nat} {k:Nat} {i:Int} (h:(K.nat d)[k]? = some i):∃ x:Nat,d[k]? = some x/\i=(x:Int):=by
 unfold K.nat at h;rw [List.getElem?_map] at h;cases hd:d[k]? with
 | none=>rw [hd] at h;cases h
 | some x =>
  rw [hd] at h;injection h with h;exact ⟨x,rfl,h.symm⟩
theorem A.ajo {d:List Nat} {k x:Nat} (s:Nat) (h:d[k]? = some x):A.share (d.take (k + 1)) s 0=A.share (d.take k) s 0 ++ (if x=s then [(k:Int)] else []):=by
 obtain ⟨hk,e⟩:=zE.1 h;rw [List.take_succ_eq_append_getElem hk,e,A.abM];have hl:(d.take k).length=k:=by rw [List.length_take];omega
 rw [hl,A.share,A.share,Int.zero_add]
theorem A.RD (s:Nat):∀ (d:List Nat) (i:Int),(A.share d s i).length<=d.length
 | [],_=>zG _
 | x :: d,i=>by
  rw [A.share,List.length_cons];have:=A.RD s d (i + 1);split
  ·rw [List.length_cons];omega
  ·omega
theorem abL (A0:Option Addr) (n c:Nat) (d:List Nat) (s:Nat) (w:World) (hl:Ints w A0 n (K.nat d)) (hn:n<=1000) :
  Calls Tryz.prog 73 #[.slice A0 n c,.int .i64 (s:Int)] w λe w'=>acC w w' (A.share d s 0) e:=by
 have aK:=zC (show n=d.length by have:=hl.1;rw [this];exact List.length_map _);go_enter Tryz.func73,Tryz.ntmps73;go_wp2_with fail;go_loopw [5,6] (λv5 v6 wr=>∃ (k:Nat),v6=.int .i64 k/\k<=n/\wr.ownsRow w.heap.size 3 1 v5 (A.share (d.take k) s 0).length (intCells (A.share (d.take k) s 0))/\Below w.heap.size w wr) (λ_ v6 _=>n - (intOf v6).toNat)
 case atStart=>exact ⟨0,rfl,by omega,World.ownsRow_nil _ _ _ _,Below.refl _ _⟩
 case round =>
  obtain ⟨k,rfl,hk,hown,hbr⟩:=hrel;by_cases hlt:k < n
  ·obtain ⟨iM,i,rfl,hi,ci⟩:=(hl.below hbr).at_ hlt;obtain ⟨x,hx,rfl⟩:=K.ag0 hi;have k0:(0:Int)<=(k:Int):=by omega
   have k1:(k:Int) < (n:Int):=by omega
   have HT:=zC (A.ajo s hx);have hpl:(A.share (d.take k) s 0).length<=1000:=by
    have:=A.RD s (d.take k) 0;rw [List.length_take] at this;omega
   clear hi hx;by_cases hxs:x=s;rotate_left
   ·have hb1:((x:Int) == (s:Int))=false:=by simp;omega
    have hb2:decide ((x:Int)=(s:Int))=false:=by simp;omega
    have hb3:(x == s)=false:=by simp;omega
    have hb4:decide (x=s)=false:=by simp;omega
    have HN:=zC (show A.share (d.take (k + 1)) s 0=A.share (d.take k) s 0 by rw [HT.out,if_neg hxs,List.append_nil]);clear hxs;go_wp2_with fail;go_roundw
    case rel=>exact ⟨k + 1,by go_num,by omega,by rw [HN.out];exact hown,hbr⟩
    case measure=>simp [intOf];omega
   ·have HN:=zC (show A.share (d.take (k + 1)) s 0=A.share (d.take k) s 0 ++ [(k:Int)] by rw [HT.out,if_pos hxs]);subst hxs;have ha:Below wr.heap.size wr (wr.alloc (.cells #[.int .i64 k] 3)):=(Below.refl _ _).alloc (zG _) _;have hown2:=own_below hown ha;have hs2:w.heap.size<=(wr.alloc (.cells #[.int .i64 k] 3)).heap.size:=Nat.le_trans hbr.size ha.size;go_wp2_with (at_builtin;refine rq rfl (.tmp 19) (.tmp 21) rfl w.heap.size u5 (A.share (d.take k) x 0).length (A.share (d.take k) x 0) rfl hown2 wr.heap.size (k:Int) rfl (bI _ _ _ rfl) (by omega) hs2 ?_;intro tv' w6 hown6 hgrow6 gW);have b6:=a_ (bel hbr ha) hgrow6 (λg e=>(hown.lt g e).1);have HS:=zC (show (A.share (d.take k) x 0).length + 1=(A.share (d.take (k + 1)) x 0).length by rw [HN.out,List.length_append];rfl);rw [<-HN.out,HS.out] at hown6;clear hgrow6 gW hown2 hown;go_roundw
    case rel=>exact ⟨k + 1,by go_num,by omega,hown6,b6⟩
    case measure=>simp [intOf];omega
  ·have HN:=zC (show d.take k=d from List.take_of_length_le (by rw [<-aK.out];omega));rw [HN.out] at hown;have hd:decide ((k:Int) < (n:Int))=false:=by simp;omega
   have hd2:decide (k < n)=false:=by simp;omega
   have hown':=hown;obtain ⟨A9,c9,rfl,hI⟩:=mJ hown rfl;have oN:=Fq hown';clear hlt;go_wp2_with fail;go_ret;exact ⟨⟨_,_,_,rfl,hI,oN⟩,hbr⟩
def oq (w:World) (g:Nat) (l:List Int):Prop:=∃ cur:Array Value,w.heap[g]? = some (.cells cur 3 (0,0))/\∀ (i:Nat) (x:Int),l[i]? = some x->cur[i]? = some (.int .i64 x)
theorem oq.cell {w:World} {g:Nat} {l:List Int} (h:oq w g l) {i:Nat} {x:Int} (hx:l[i]? = some x):w.cell? ⟨g,i,none⟩=some (.int .i64 x):=by
 obtain ⟨cur,h1,h2⟩:=h;exact af h1 i _ (h2 i x hx)
theorem oq.free {w:World} {g:Nat} {l:List Int} (h:oq w g l) (i:Nat):w.frozen? ⟨g,i,none⟩=false:=by
 obtain ⟨cur,h1,-⟩:=h;exact gI h1 i
theorem oq.set {w:World} {g:Nat} {l:List Int} (h:oq w g l) {k:Nat} (hk:k < l.length) (x:Int):oq (w.setCell ⟨g,k,none⟩ (.int .i64 x)) g (l.set k x):=by
 obtain ⟨cur,h1,h2⟩:=h;refine ⟨_,bg h1 k _,λi y hy=>?_⟩;have hkc:k < cur.size:=(Array.getElem?_eq_some_iff.1 (h2 k _ (zF hk))).1;rw [List.getElem?_set] at hy;rw [Array.getElem?_setIfInBounds];by_cases e:k=i
 ·subst e;rw [if_pos rfl,if_pos hk] at hy;injection hy with hy;rw [if_pos rfl,if_pos hkc,hy]
 ·rw [if_neg e] at hy;rw [if_neg e];exact h2 i y hy
theorem oq.ints {w:World} {g:Nat} {l:List Int} (h:oq w g l):Ints w (some ⟨g,0,none⟩) l.length l:=by
 obtain ⟨cur,h1,h2⟩:=h;refine ⟨rfl,by simp [intCells],λ_=>⟨_,rfl,λj u hu=>?_⟩⟩;rw [intCells,List.getElem?_map] at hu;obtain ⟨y,hy,rfl⟩:=Option.map_eq_some_iff.1 hu;rw [jy];exact af h1 j _ (h2 j y hy)
theorem aiP {w:World} {base n c:Nat} {A2:Option Addr} {l:List Int} (h:w.ownsRow base 3 1 (.slice A2 n c) n (intCells l)) (h0:0 < n):∃ g,A2=some ⟨g,0,none⟩/\base<=g/\oq w g l:=by
 obtain ⟨hl,⟨e,e2⟩ | ⟨g,cap,cur,e,hb,hh,hnc,-,hsz,ht⟩⟩:=h
 ·omega
 ·injection e with e1 e2 e3;refine ⟨g,e1,hb,cur,hh,λi x hx=>?_⟩;have hu:(intCells l)[i]? = some (.int .i64 x):=by rw [intCells,List.getElem?_map,hx];rfl
  rw [<-ht,List.getElem?_take] at hu;split at hu
  ·simpa using hu
  ·cases hu
theorem set_mid (a z:List Int) (x y:Int):((a ++ [x]) ++ z).set a.length y=a ++ y :: z:=by
 rw [List.append_assoc,List.set_append_right _ _ (zG _),Nat.sub_self];rfl
def acA (w w':World) (p:Option (List Nat)) (e:Ending):Prop :=
 ((p=none/\e=.returned (.tuple #[.slice none 0 0,.bool false]))\/∃ d A n c,p=some d/\e=.returned (.tuple #[.slice A n c,.bool true])/\Ints w' A n (K.nat d)/\n<=c)/\Below w.heap.size w w'
def K.low (d:List Nat) (n j:Nat):List Int:=K.nat (d.take j) ++ List.replicate (n - j) 0
theorem K.agO {d:List Nat} {n i x:Nat} (h:d[i]? = some x):(K.low d n (i + 1))[i]? = some (x:Int):=by
 have hk:=(zE.1 h).1;unfold K.low K.nat;rw [List.getElem?_append_left (by rw [List.length_map,List.length_take];omega),List.getElem?_map,List.getElem?_take,if_pos (by omega),h];rfl
theorem K.agP {d:List Nat} {n j:Nat} (hn:n=d.length) (hj:j<=n):(K.low d n j).length=n:=by
 unfold K.low K.nat;rw [List.length_append,List.length_map,List.length_take,List.length_replicate];omega
theorem K.low_set {d:List Nat} {n i x:Nat} (h:d[i]? = some x) (y:Int):(K.low d n (i + 1)).set i y=K.nat (d.take i) ++ y :: List.replicate (n - (i + 1)) 0:=by
 have hk:=(zE.1 h).1;have hl:(K.nat (d.take i)).length=i:=by unfold K.nat;rw [List.length_map,List.length_take];omega
 have:=set_mid (K.nat (d.take i)) (List.replicate (n - (i + 1)) 0) (x:Int) y;rw [hl] at this;rw [<-this];unfold K.low;rw [take_snoc h];unfold K.nat;rw [List.map_append];rfl
theorem K.agQ {d:List Nat} {n i x:Nat} (h:d[i]? = some x) (hn:n=d.length):(K.low d n (i + 1)).set i 0=K.low d n i:=by
 have hk:=(zE.1 h).1;rw [K.low_set h,K.low];congr 1;rw [show n - i=(n - (i + 1)) + 1 by omega];rfl
theorem ZI (A0:Option Addr) (n c:Nat) (d:List Nat) (m:Nat) (w:World) (hl:Ints w A0 n (K.nat d)) (hn:n<=1000) (hd:∀ s ∈ d,s < m) (hm:m<=1000) :
  Calls Tryz.prog 71 #[.slice A0 n c,.int .i64 (m:Int)] w λe w'=>acA w w' (A.next m d) e:=by
 have aK:=zC (show n=d.length by have:=hl.1;rw [this];exact List.length_map _);obtain ⟨i0,hi,hz0,hz1,hz2⟩:=info_parts Tryz.info3;obtain ⟨w1,hw1⟩:=zB (w.alloc (.cells #[] 3));have b1:=zA hw1;have gZ:w1.ownsRow w.heap.size 3 1 (.slice (some ⟨w.heap.size,0,none⟩) 0 0) 0 []:=by rw [hw1];exact mM (heap_alloc_new w (.cells #[] 3)) (zG _)
 have hrd:=(hl.below b1).2;have hsz:=b1.size;have hwr:IntKind.i64.wrap ((n:Int) - 1)=(n:Int) - 1:=IntWalk.i64_in _ (by omega);go_enter Tryz.func71,Tryz.ntmps71;go_wp2_with (first
  | (at_builtin;rw [<-hw1];refine jW rfl (.tmp 8) (.tmp 9) 48 rfl w.heap.size 3 i0 (.int .i64 0) 1 8 Tryz.underlying48 hi hz0 hz1 hz2 rfl (by decide) (.slice (some ⟨w.heap.size,0,none⟩) 0 0) 0 [] rfl gZ A0 n c (intCells (K.nat d)) rfl hrd (oU _) (by simp only [maxLen];omega) (by omega) hsz ?_;intro v1 w2 hown2 hgrow2 _;rw [Nat.zero_add,List.nil_append] at hown2;obtain ⟨A2,c2,rfl,-,-⟩:=dh hown2;have hb2:=a_ b1 hgrow2 (zq (zG _)))
  | fail)
 have hc2:=Fq hown2;clear gZ hrd hsz hw1 b1 hgrow2 hi hz0 hz1 hz2;go_loopw [7] (λv7 wr=>∃ (j:Nat) (z:Int),v7=.int .i64 z/\z=(j:Int) - 1/\j<=n/\(0 < n->∃ g,A2=some ⟨g,0,none⟩/\w.heap.size<=g/\oq wr g (K.low d n j))/\Hid (A.next m (d.drop j)=none)/\Below w.heap.size w wr) (λv7 _=>(intOf v7 + 1).toNat)
 case atStart =>
  refine ⟨n,_,rfl,(by simp),zG _,λh0=>?_,(by show _=_;rw [List.drop_eq_nil_of_le (by rw [<-aK.out];exact zG _)];rfl),hb2⟩;obtain ⟨g,e1,e2,e3⟩:=aiP hown2 h0;refine ⟨g,e1,e2,?_⟩;unfold K.low;rw [List.take_of_length_le (by rw [<-aK.out];exact zG _),Nat.sub_self,List.replicate_zero,List.append_nil];exact e3
 case round =>
  clear hown2 hb2;obtain ⟨j,z,rfl,hz,hj,hrow,hnx,hbr⟩:=hrel;cases j with
  | zero =>
   have hzz:z=-1:=by omega
   subst hzz;have HX:=zC (show A.next m d=none by have:=hnx.out;rwa [List.drop_zero] at this);clear hz hrow;go_wp2_with fail;go_ret2
   exact ⟨.inl ⟨HX.out,rfl⟩,hbr⟩
  | succ i =>
   have hzz:z=(i:Int):=by omega
   subst hzz;obtain ⟨g,rfl,hg,hR⟩:=hrow (by omega);have hid:i < d.length:=by rw [<-aK.out];omega
   have hx:d[i]? = some d[i]:=zF hid;obtain ⟨x,hxe⟩:=zB (d[i]);rw [<-hxe] at hx;have hxm:x < m:=hd x (zD hx);have hcell:=hR.cell (K.agO (n:=n) hx);have hfree:=hR.free i;have hlow:=K.agP aK.out hj;have i0:(0:Int)<=(i:Int):=by omega
   have i1:(i:Int) < (n:Int):=by omega
   have hw1:IntKind.i64.wrap ((x:Int) + 1)=(x:Int) + 1:=IntWalk.i64_in _ (by omega);have hw2:IntKind.i64.wrap ((i:Int) - 1)=(i:Int) - 1:=IntWalk.i64_in _ (by omega);have hge:decide (0<=(i:Int))=true:=by simp
   have aV:=zC (A.ZN d i hnx.out x hx);have HX:=zC hx;have HD:=zC (show d=d.take i ++ d.drop i from (List.take_append_drop i d).symm);have hB1:∀ u:Int,Below w.heap.size w (wr.setCell ⟨g,i,none⟩ (.int .i64 u)):=λu=>hbr.setCell (p:=⟨g,i,none⟩) hg _;have hRs:∀ u:Int,oq (wr.setCell ⟨g,i,none⟩ (.int .i64 u)) g ((K.low d n (i + 1)).set i u):=λu=>hR.set (by rw [hlow];omega) u;clear hz hx hxe hid hR hlow;by_cases hlt:x + 1 < m
   ·have hd1:decide ((x:Int) + 1 < (m:Int))=true:=by simp;omega
    have HN:=zC (show A.next m d=some (d.take i ++ (x + 1) :: List.replicate (n - (i + 1)) 0) by
     have h9:=aV.out;rw [if_pos hlt,<-aK.out] at h9;rw [HD.out,A.ZP _ _ _ h9,<-HD.out])
    have hI:=(hRs ((x:Int) + 1)).ints;rw [K.low_set HX.out] at hI;have hln:(K.nat (d.take i) ++ ((x:Int) + 1) :: List.replicate (n - (i + 1)) 0).length=n:=by
     have h8:=aK.out;unfold K.nat;rw [List.length_append,List.length_map,List.length_take,List.length_cons,List.length_replicate];omega
    rw [hln] at hI;have hI2:Ints (wr.setCell ⟨g,i,none⟩ (.int .i64 ((x:Int) + 1))) (some ⟨g,0,none⟩) n (K.nat (d.take i ++ (x + 1) :: List.replicate (n - (i + 1)) 0)):=by
     have e9:K.nat (d.take i ++ (x + 1) :: List.replicate (n - (i + 1)) 0)=K.nat (d.take i) ++ ((x:Int) + 1) :: List.replicate (n - (i + 1)) 0:=by
      unfold K.nat;rw [List.map_append,List.map_cons,List.map_replicate];rfl
     rw [e9];exact hI
    have hbX:=hB1 ((x:Int) + 1);clear hI hln hlt hRs hB1 aV;go_wp2_with fail;go_ret2
    exact ⟨.inr ⟨_,_,_,_,HN.out,rfl,hI2,hc2⟩,hbX⟩
   ·have hd1:decide ((x:Int) + 1 < (m:Int))=false:=by simp;omega
    have HN:=zC (show A.next m (d.drop i)=none by rw [aV.out,if_neg hlt]);have hR0:=hRs 0;rw [K.agQ HX.out aK.out] at hR0;have hbX:=hB1 0;clear hlt hRs hB1 aV;go_wp2_with fail;go_roundw
    case rel=>(go_light;exact ⟨i,_,rfl,(by simp),by omega,λ_=>⟨g,rfl,hg,hR0⟩,HN.out,hbX⟩)
    case measure=>(go_light;simp [intOf])
def o6 (m k:Nat) (v10 v11:Value) (w:World):Nat:=match v11 with
 | .bool true=>(m ^ k - A.val m ((J8 w v10).map Int.toNat)) + 1
 | _=>0
theorem ajN (d:List Nat):(K.nat d).map Int.toNat=d:=by
 unfold K.nat;rw [List.map_map];conv=>rhs;rw [<-List.map_id d]
 congr 1
theorem J6 {w:World} {A0:Option Addr} {n c m k:Nat} {d:List Nat} (h:Ints w A0 n (K.nat d)):o6 m k (.slice A0 n c) (.bool true) w=(m ^ k - A.val m d) + 1:=by
 unfold o6;rw [aaG h,ajN]
namespace K
def rW (bl:List BV) (d:List Nat):Bool:=bl.any λb=>A.part b.v (A.share d b.sh.toNat 0)
theorem adn {bl:List BV} {m n:Nat} (hb:∀ b ∈ bl,0<=b.sh/\b.sh < (m:Int)):A.blocked (bl.map λb=>(b.sh.toNat,b.v)) m n 0 (List.replicate m [])=(A.exts m n).all (rW bl):=by
 rw [Bool.eq_iff_iff,A.H7 n 0 _ (List.length_replicate ..),List.all_eq_true];have key:∀ d ∈ A.exts m n,A.hit (bl.map λb=>(b.sh.toNat,b.v)) (A.place (List.replicate m []) 0 d)=rW bl d:=λd hd=>by
  rw [A.aat hd];unfold A.hit rW;rw [List.any_map];have e:∀ b ∈ bl,((λb:Nat × List Int=>A.part b.2 ((((List.range m).map λs=>A.share d s 0)[b.1]?).getD [])) ∘ λb:BV=>(b.sh.toNat,b.v)) b=A.part b.v (A.share d b.sh.toNat 0):=λb hb'=>by
   have h1:=hb b hb';show A.part b.v ((((List.range m).map λs=>A.share d s 0)[b.sh.toNat]?).getD [])=_;rw [List.getElem?_map,List.getElem?_range (by omega)];rfl
  rw [Bool.eq_iff_iff,List.any_eq_true,List.any_eq_true];exact ⟨λ⟨b,h1,h2⟩=>⟨b,h1,by rw [<-e b h1];exact h2⟩,λ⟨b,h1,h2⟩=>⟨b,h1,by rw [e b h1];exact h2⟩⟩
 exact ⟨λh d hd=>by rw [<-key d hd];exact h d hd,λh d hd=>by rw [key d hd];exact h d hd⟩
theorem aec {n:Nat} (H:List Nat->Bool) (h:H [] = false):(A.exts 0 n).all H=decide (0 < n):=by
 cases n with
 | zero=>simp [A.exts,h]
 | succ n =>
  have:A.exts 0 (n + 1)=[]:=by simp [A.exts]
  rw [this];simp
end K
theorem aj6 {w:World} {V:Option Addr} {vn N:Nat} {v:List Int} (h:Ints w V vn v) (hv:v.length<=N):vn<=N:=by rw [h.1];exact hv
theorem VD {α:Type} {p:α->Bool} {l:List α} {k:Nat} {x:α} (h:l[k]? = some x):(l.take (k + 1)).any p=((l.take k).any p || p x):=by
 rw [take_snoc h,List.any_append];simp
theorem aiT (x:Cs) (BA:Option Addr) (bn bc:Nat) (bl:List BV) (w:World) (hx:bF w x) (hB:fA w BA bn bl) (hF:sO bn bl) :
  Calls Tryz.prog 29 #[.agg #[.int .i64 x.nd,.slice x.A x.n x.c],.slice x.SA x.sn x.sc,.slice x.B x.m x.d,.slice BA bn bc] w λe w'=>e=.returned (.bool (K.refutes x.nd x.l x.ss x.r (bl.map BV.pr)))/\Below w.heap.size w w':=by
 obtain ⟨w0,hw0⟩:=zB (w.alloc (.cells #[.int .i64 x.nd,.slice x.A x.n x.c] 24));have b0:=zA hw0;obtain ⟨G0,hG0⟩:=zB w.heap.size;have hN:Net w0 G0 x.nd x.A x.n x.c:=by rw [hw0,hG0];exact Net.new w x.nd x.A x.n x.c
 have p0:=hN.c0;have p1:=hN.c1;obtain ⟨R,hR⟩:=zB (K.refutes x.nd x.l x.ss x.r (bl.map BV.pr));have HR:=zC hR;rw [<-hR];clear hR;have qO:=zC hB.1.1;obtain ⟨Eb,hbs⟩:=hF;go_enter Tryz.func29,Tryz.ntmps29;go_wp2_with fail;rw [<-hw0,<-hG0];clear hw0 hG0;refine (Ru x _ (hx.below b0)).mono ?_;obtain ⟨ce,hce⟩:=zB (K.aH x.nd x.l x.ss x.r);rw [<-hce];rintro e w1 ⟨rfl,b1⟩;have hN1:=hN.below b1;have hb1:=bel b0 b1;clear p0 p1 b0 b1 hN;by_cases hz:ce=0;rotate_left
 ·have HX:=zC (show R=false by rw [HR.out];exact K.aaN (by rw [<-hce];exact hz));have hd:(ce != 0)=true:=by simp [bne,hz]
  have hd2:decide (ce=0)=false:=by simp [hz]
  clear hce hz;go_wp2_with fail;go_ret;exact ⟨by rw [HX.out];rfl,hb1⟩
 subst hz;have aJ:=zC hce.symm;clear hce;have bf:=zC hx.shifts.1.1;have aO:=zC hx.aN.1;have j_:x.m<=6:=by rw [aO.out];exact (K.gQ aJ.out).2.2.2.2
 have qC:x.sn<=4:=by rw [bf.out];exact (K.gQ aJ.out).2.1
 by_cases Bj:bn<=200;rotate_left
 ·have hd1:decide ((200:Int) < (bn:Int))=true:=by simp;omega
  have hd2:decide (200 < bn)=true:=by simp;omega
  have HX:=zC (show R=false by rw [HR.out];exact K.aaP (by rw [List.length_map,<-qO.out];exact Bj));clear Bj;go_wp2_with fail;go_ret;exact ⟨by rw [HX.out];rfl,hb1⟩
 have hd1:decide ((200:Int) < (bn:Int))=false:=by simp;omega
 have hd2:decide (200 < bn)=false:=by simp;omega
 obtain ⟨P,hP⟩:=zB (A.blocked (bl.map λb=>(b.sh.toNat,b.v)) x.sn x.m 0 (List.replicate x.sn []));have nZ:=zC (show R=(((bl.map BV.pr).drop 0).all (K.iZ x.nd x.l x.ss x.r) && P) by
  rw [HR.out,K.aaO aJ.out (by rw [List.length_map,<-qO.out];exact Bj),hP,bf.out,aO.out,List.map_map];rfl)
 have HP:=zC hP;obtain ⟨L,hL⟩:=zB (bl.map BV.pr);rw [<-hL] at nZ;have HL:=zC hL;clear hP hL;go_wp2_with fail;clear hd1 hd2;go_loopw [9] (λv9 wr=>∃ k:Nat,v9=.int .i64 k/\k<=bn/\Below w1.heap.size w1 wr/\Hid (R=((L.drop k).all (K.iZ x.nd x.l x.ss x.r) && P))/\Hid (∀ (j:Nat) (b:BV),j < k->bl[j]? = some b->0<=b.sh/\b.sh < (x.sn:Int))) (λv9 _=>bn - (intOf v9).toNat)
 case atStart=>exact ⟨0,rfl,Nat.zero_le _,Below.refl _ _,nZ.out,λj b h=>absurd h (by omega)⟩
 case round =>
  obtain ⟨k,rfl,hk,hbr,hrr,hrg⟩:=hrel;by_cases hlt:k < bn
  ·obtain ⟨ad,y,kW,hy,⟨hI1,hI2⟩,c0,c1,c2⟩:=(hB.below (bel hb1 hbr)).at_ hlt;obtain ⟨hv1,hv2,hv3⟩:=hbs y (zD hy);have hLk:L[k]? = some y.pr:=by rw [HL.out,List.getElem?_map,hy];rfl
   have HDR:=zC (show R=((K.iZ x.nd x.l x.ss x.r y.pr && (L.drop (k + 1)).all (K.iZ x.nd x.l x.ss x.r)) && P) by rw [hrr.out,K.Uz hLk]);have HY:=zC hy;have k0:(0:Int)<=(k:Int):=by omega
   have k1:(k:Int) < (bn:Int):=by omega
   have w_:=(hx.below hb1).below hbr;have iD:=hN1.below hbr;clear hy hLk hrr;rw [kW];go_upto_region 7 with fail;by_cases hneg:y.sh < 0
   ·have HX:=zC (show R=false by rw [HDR.out,K.QT (b:=y.pr) (.inl hneg)];rfl);have hd1:decide (y.sh < 0)=true:=zH hneg;clear hneg c0 c1 c2;go_wp2_with fail;go_ret;exact ⟨by rw [HX.out];rfl,bel hb1 hbr⟩
   have hd1:decide (y.sh < 0)=false:=zI hneg;by_cases hbig:(x.sn:Int)<=y.sh
   ·have HX:=zC (show R=false by rw [HDR.out,K.QT (b:=y.pr) (.inr (by rw [<-bf.out];exact hbig))];rfl);have hd2:decide ((x.sn:Int)<=y.sh)=true:=zH hbig;clear hneg hbig c0 c1 c2;go_wp2_with fail;go_ret;exact ⟨by rw [HX.out];rfl,bel hb1 hbr⟩
   have hd2:decide ((x.sn:Int)<=y.sh)=false:=zI hbig;obtain ⟨s,hs⟩:∃ s:Nat,y.sh=(s:Int):=⟨y.sh.toNat,by omega⟩;have hsn:s < x.sn:=by omega
   obtain ⟨au,sS,gq,hsS,qf,s0,s1,s2,s3,s4,s5⟩:=w_.shifts.at_ hsn;have C_:=zC (K.ZY (nd:=x.nd) (l:=x.l) (r:=x.r) (b:=y.pr) (show 0<=y.sh by omega) (show x.ss[y.sh.toNat]? = some sS by rw [hs];exact hsS));have hsm:=zD hsS;have Df:=zC (show ∀ (j:Nat) (b:BV),j < k + 1->bl[j]? = some b->0<=b.sh/\b.sh < (x.sn:Int) from λj b hj hb=>by
    by_cases e:j=k
    ·rw [e,HY.out] at hb;injection hb with hb;rw [<-hb,hs];omega
    ·exact hrg.out j b (by omega) hb)
   have dW:=zC hs;have q0:=ah.cell c0;have q1:=ah.cell c1;have q2:=ah.cell c2;have p0:=ah.cell iD.c0;have p1:=ah.cell iD.c1;have r0:=ah.cell s0;have r1:=ah.cell s1;have r2:=ah.cell s2;have r3:=ah.cell s3;have r4:=ah.cell s4;have r5:=ah.cell s5;obtain ⟨cb,hcb⟩:=zB (K.blocks x.nd x.l sS x.r y.v y.lb);have CT:∀ i:ah wr,Calls Tryz.prog 90 #[.agg #[.int .i64 x.nd,.slice x.A x.n x.c],.agg #[.int .i64 sS.day,.int .i64 sS.ag,.int .i64 sS.start,.int .i64 sS.end_,.int .i64 sS.aj,.slice sS.A sS.n sS.c],.slice x.B x.m x.d,.agg #[.int .i64 y.sh,.slice y.V y.vn y.vc,.slice y.LA y.ln y.lc]] i.val λe w'=>e=.returned (.bool cb)/\Below i.val.heap.size i.val w':=λi=>by
    rw [hcb];exact adx (x.one sS) y.sh y.V y.vn y.vc y.v y.LA y.ln y.lc y.lb i.val ((w_.below i.property).case hsm) (hI1.below i.property) hv2 (aQ.below hI2 i.property) hv3
   have pG:=zC (show K.iZ x.nd x.l x.ss x.r y.pr=cb by rw [C_.out,hcb];rfl);have EP:(0:Int)<=(s:Int):=by omega
   have EQ:(s:Int) < (x.sn:Int):=by omega
   have kd1:decide ((s:Int) < 0)=false:=by simp
   have qE:decide ((x.sn:Int)<=(s:Int))=false:=by simp;omega
   have kd3:decide (x.sn<=s)=false:=by simp;omega
   rw [dW.out] at q0 CT hd1 hd2 ⊢;rw [gq];have pK:=zC gq;clear hs hsS hneg hbig hrg hcb C_ gq s0 s1 s2 s3 s4 s5 c0 c1 c2 qf;go_upto_region 9 with fail;refine dU (by kernel_rfl) (by kernel_rfl) ?_;repeat (go_big_quiet_step ((go_at_call 90;exact ah.calls (CT _))))
   refine wpQuiet_nil ?_;rintro w4 ⟨⟨w4,b4⟩,rfl⟩;rw [<-pK.out];have hb4:=bel hbr b4;clear q0 q1 q2 p0 p1 r0 r1 r2 r3 r4 r5 CT hI1 hI2 b4 hbr hd1 hd2;cases cb
   ·have HX:=zC (show R=false by rw [HDR.out,pG.out];rfl);go_wp2_with fail;go_ret;exact ⟨by rw [HX.out];rfl,bel hb1 hb4⟩
   ·have aV:=zC (show R=((L.drop (k + 1)).all (K.iZ x.nd x.l x.ss x.r) && P) by rw [HDR.out,pG.out,Bool.true_and]);go_wp2_with fail;go_roundw
    case rel=>(go_light;exact ⟨k + 1,by go_num,hlt,hb4,aV.out,Df.out⟩)
    case measure=>(go_light;simp [intOf];omega)
  ·have zX:=zC (show R=P by rw [hrr.out,List.drop_eq_nil_of_le (by rw [HL.out,List.length_map,<-qO.out];omega)];rfl);have hok:∀ b ∈ bl,0<=b.sh/\b.sh < (x.sn:Int):=λb hb=>by
    obtain ⟨j,hj,e⟩:=List.getElem_of_mem hb;exact hrg.out j b (by have:=qO.out;omega) (by rw [zF hj,e])
   have HE:=zC (show R=(A.exts x.sn x.m).all (K.rW bl) by rw [zX.out,HP.out];exact K.adn hok);have TB:=zC hok;have hd:decide ((k:Int) < (bn:Int))=false:=by simp;omega
   have hd2:decide (k < bn)=false:=by simp;omega
   clear hrr hrg hok zX;by_cases h3:0 < x.sn;rotate_left
   ·have d5:((x.sn:Int) == 0)=true:=by simp;omega
    have d6:decide ((x.sn:Int)=0)=true:=by simp;omega
    have d7:x.sn=0:=by omega
    have hX:R=decide (0 < x.m):=by
     rw [HE.out,d7];refine K.aec _ ?_;have:bl=[]:=by
      cases hbl:bl with
      | nil=>rfl
      | cons b l =>
       have:=TB.out b (by rw [hbl];exact List.mem_cons_self ..);omega
     rw [this];rfl
    have HX:=zC hX;have bU:=bel hb1 hbr;clear hX h3 d7 hlt hk;by_cases hm0:0 < x.m
    ·have d8:decide ((0:Int) < (x.m:Int))=true:=by simp;omega
     have d9:decide (0 < x.m)=true:=by simp;omega
     have qU:=zC (HX.out.trans d9);clear hm0;go_wp2_with fail;go_ret;exact ⟨by rw [qU.out];rfl,bU⟩
    ·have d8:decide ((0:Int) < (x.m:Int))=false:=by simp;omega
     have d9:decide (0 < x.m)=false:=by simp;omega
     have qU:=zC (HX.out.trans d9);clear hm0;go_wp2_with fail;go_ret;exact ⟨by rw [qU.out];rfl,bU⟩
   have d5:((x.sn:Int) == 0)=false:=by simp;omega
   have d6:decide ((x.sn:Int)=0)=false:=by simp;omega
   obtain ⟨h,hh⟩:=zB wr.heap.size;obtain ⟨w5,hw5⟩:=zB (wr.alloc (.cells (intCells (List.replicate x.m 0)).toArray 3));have aU:=zA hw5;have fQ:Ints w5 (some ⟨h,0,none⟩) x.m (K.nat (List.replicate x.m 0)):=by
    have h9:di w5 h (List.replicate x.m 0):=by rw [hw5,hh];exact heap_alloc_new _ _
    have h8:=h9.ints;rw [List.length_replicate] at h8;unfold K.nat;rw [List.map_replicate];exact h8
   have hmk:=BL x.m (by omega);have hb5:=bel hb1 (bel hbr aU);clear hlt hk;go_wp2_with fail;rw [<-hw5,<-hh];clear hw5 hh hmk aU hbr hb1 d5 d6 hd hd2;have Eg:=A.VJ h3 x.m;go_loopw [11,12] (λv11 v12 wr=>Below w5.heap.size w5 wr/\((v12=.bool false/\Hid (∀ e ∈ A.exts x.sn x.m,K.rW bl e=true))\/∃ (j:Nat) (d:List Nat) (LA:Option Addr) (ln lc:Nat),v12=.bool true/\v11=.slice LA ln lc/\Ints wr LA ln (K.nat d)/\Hid ((A.exts x.sn x.m)[j]? = some d)/\Hid (∀ e ∈ (A.exts x.sn x.m).take j,K.rW bl e=true))) (λv11 v12 wr=>o6 x.sn x.m v11 v12 wr)
   case atStart=>exact ⟨Below.refl _ _,.inr ⟨0,_,_,_,_,rfl,rfl,fQ,Eg,λe he=>(by cases he)⟩⟩
   case round =>
    clear fQ Eg;obtain ⟨hbr,(⟨rfl,hno⟩ | ⟨j,d,LA,ln,lc,rfl,rfl,hI,hj,hbef⟩)⟩:=hrel
    ·have HX:=zC (show R=true by rw [HE.out,List.all_eq_true];exact hno.out);go_wp2_with fail;go_ret;exact ⟨by rw [HX.out];rfl,bel hb5 hbr⟩
    ·obtain ⟨wo,hwo⟩:=zB wr;subst hwo;obtain ⟨hdl,hdm⟩:=A.o5.1 (zD hj.out);have hln:ln=x.m:=by rw [hI.1];unfold K.nat;rw [List.length_map];exact hdl
     have aK:=zC hln;have vI:=zC hdl;have sV:=zC hdm;have En:ln<=1000:=by omega
     have ae4:d.length<=1000:=by omega
     have Dh:=zC (J6 (c:=lc) (m:=x.sn) (k:=x.m) hI);have hb6:=bel hb5 hbr;have hBr:=hB.below hb6;clear hdl hdm hln;go_wp2_with fail;go_loopw [13,14] (λv13 v14 wi=>∃ i:Nat,v14=.int .i64 i/\i<=bn/\v13=.bool ((bl.take i).any λb=>A.part b.v (A.share d b.sh.toNat 0))/\Below wo.heap.size wo wi) (λ_ v14 _=>bn - (intOf v14).toNat)
     case atStart=>exact ⟨0,rfl,Nat.zero_le _,rfl,Below.refl _ _⟩
     case round =>
      obtain ⟨i,rfl,hi,rfl,hbi⟩:=hrel;have hbw:=bel hbr hbi;by_cases hlt:i < bn
      ·obtain ⟨ad,b,kW,Ba,⟨hIv,-⟩,c0,c1,c2⟩:=(hBr.below hbi).at_ hlt;obtain ⟨s,hs⟩:∃ s:Nat,b.sh=(s:Int):=⟨b.sh.toNat,by have:=TB.out b (zD Ba);omega⟩;have hvn:=(hbs b (zD Ba)).2.1;have aV:=zC (VD (p:=λb=>A.part b.v (A.share d b.sh.toNat 0)) Ba);obtain ⟨z,hz⟩:=zB ((bl.take i).any λb=>A.part b.v (A.share d b.sh.toNat 0));rw [<-hz] at aV ⊢;obtain ⟨z2,hz2⟩:=zB (A.part b.v (A.share d s 0));have HZ2:=zC (show A.part b.v (A.share d b.sh.toNat 0)=z2 by rw [hz2,hs];rfl);have HZ3:=zC hz2.symm;have i0:(0:Int)<=(i:Int):=by omega
       have i1:(i:Int) < (bn:Int):=by omega
       have hki:(i + 1)<=bn:=hlt;rw [hs] at c0;clear hz hz2 hs Ba c2 hi;rw [kW];clear kW;cases z
       ·have HQ:=zC (show ((bl.take (i + 1)).any λb=>A.part b.v (A.share d b.sh.toNat 0))=z2 by rw [aV.out,HZ2.out,Bool.false_or]);have mD:∀ w',Below wr.heap.size wr w'->(λw':World=>w'.cell? (ad.add (i * 3))=some (.int .i64 (s:Int))/\w'.cell? ⟨(ad.add (i * 3)).block,(ad.add (i * 3)).off + 1,none⟩=some (.slice b.V b.vn b.vc)) w':=λw' h=>⟨(h.cell (cell_lt c0)).trans c0,(h.cell (cell_lt c1)).trans c1⟩;have hR0:Below wr.heap.size wr wr:=Below.refl _ _;have uu:=hR0.drew;have S0:=mD _ hR0;have aW:=mD _ uu;have hIi:=hI.below hbi;clear c0 c1 aV HZ2;go_upto_region 21 with fail
        go_region_held3 (λw':World=>w'.cell? (ad.add (i * 3))=some (.int .i64 (s:Int))/\w'.cell? ⟨(ad.add (i * 3)).block,(ad.add (i * 3)).off + 1,none⟩=some (.slice b.V b.vn b.vc))
         (first | with_reducible exact S2 | with_reducible exact S1 | with_reducible exact aW | with_reducible exact S0 | fail)
         (first
          | (go_at_call 73;refine (abL LA ln lc d s _ (hIi.below uu) En).mono ?_;rintro e wd ⟨⟨V,vn,vc,rfl,qi,lg⟩,bd⟩;have Nq:=bel uu bd;have S1:=mD _ Nq;have hvl:=aj6 qi (Nat.le_trans (A.RD s d 0) ae4))
          | (go_at_call 80;refine (abn b.V b.vn b.vc b.v V vn vc _ _ ((hIv.below Nq)) hvn qi (by omega)).mono ?_;rintro e we ⟨rfl,be⟩;rw [HZ3.out];have be2:=bel Nq be;have S2:=mD _ be2)
          | fail)
        have hbe:=bel hbi be2;clear S0 aW S1 S2 mD hR0 uu;go_wp2_with fail;go_roundw
        case rel=>(go_light;exact ⟨i + 1,by go_num,hki,by rw [HQ.out],hbe⟩)
        case measure=>(go_light;simp [intOf];omega)
       ·have HQ:=zC (show ((bl.take (i + 1)).any λb=>A.part b.v (A.share d b.sh.toNat 0))=true by rw [aV.out,Bool.true_or]);clear c0 c1 aV HZ2;go_upto_region 21 with fail;refine dU (by kernel_rfl) (by kernel_rfl) ?_;repeat (go_big_quiet_step (fail))
        refine wpQuiet_nil ?_;rintro w4 ⟨⟨w4,b4⟩,rfl⟩;have hbe:=bel hbi b4;go_wp2_with fail;go_roundw
        case rel=>(go_light;exact ⟨i + 1,by go_num,hki,by rw [HQ.out],hbe⟩)
        case measure=>(go_light;simp [intOf];omega)
      ·have hall:(bl.take i).any (λb=>A.part b.v (A.share d b.sh.toNat 0))=K.rW bl d:=by rw [List.take_of_length_le (by have:=qO.out;omega)];rfl
       rw [hall];have hd:decide ((i:Int) < (bn:Int))=false:=by simp;omega
       have hd2:decide (i < bn)=false:=by simp;omega
       obtain ⟨z,hz⟩:=zB (K.rW bl d);have HZ:=zC hz;rw [<-hz];have gV:=hI.below hbi;have CN:=ZI LA ln lc d x.sn wr gV En sV.out (by omega);have HEX:=zC (A.ZO h3 hj.out);obtain ⟨nx,hnx⟩:=zB (A.next x.sn d);rw [<-hnx] at CN HEX;have aV:=zC hnx;clear hall hz hnx hlt hi;cases z
       ·have HX:=zC (show R=false by
         rw [HE.out,List.all_eq_false];exact ⟨d,zD hj.out,by rw [<-HZ.out];decide⟩)
        clear CN;go_wp2_with fail;go_ret;exact ⟨by rw [HX.out];rfl,bel hb5 hbw⟩
       have CE:=zC (show ∀ e ∈ (A.exts x.sn x.m).take (j + 1),K.rW bl e=true from λe he=>by
        rw [take_snoc hj.out] at he;rcases List.mem_append.1 he with he | he
        ·exact hbef.out e he
        ·rw [List.mem_singleton.1 he];exact HZ.out.symm)
       go_wp2_with fail;refine CN.mono ?_;rintro e w7 ⟨(⟨hnn,rfl⟩ | ⟨d',A',n',c',hnn,rfl,hI',hc'⟩),b7⟩
       ·have xG:=zC (show ∀ e ∈ A.exts x.sn x.m,K.rW bl e=true by
         have h9:=HEX.out;rw [hnn] at h9;have h8:=List.getElem?_eq_none_iff.1 h9.symm;have h7:=CE.out;rw [List.take_of_length_le h8] at h7;exact h7)
        have hb7:=bel hbw b7;have jb:=zC (show o6 x.sn x.m (.slice none 0 0) (.bool false) w7 < o6 x.sn x.m (.slice LA ln lc) (.bool true) wo by rw [Dh.out];exact Nat.succ_pos _);clear hnn CN;go_wp2_with fail;go_roundw
        case rel=>(go_light;exact ⟨hb7,.inl ⟨rfl,xG.out⟩⟩)
        case measure=>(go_light;exact jb.out)
       ·have hb7:=bel hbw b7;have jb:=zC (show o6 x.sn x.m (.slice A' n' c') (.bool true) w7 < o6 x.sn x.m (.slice LA ln lc) (.bool true) wo by
         rw [Dh.out,J6 hI'];have h9:=((A.R_ sV.out).1 d' (by rw [<-aV.out];exact hnn)).1;have h8:=A.RZ sV.out;rw [vI.out] at h8;omega)
        have La:=zC (show (A.exts x.sn x.m)[j + 1]? = some d' by rw [<-HEX.out];exact hnn);clear hnn CN;go_wp2_with fail;go_roundw
        case rel=>(go_light;exact ⟨hb7,.inr ⟨j + 1,d',A',n',c',rfl,rfl,hI',La.out,CE.out⟩⟩)
        case measure=>(go_light;exact jb.out)
end Go.Proofs.YtippdjmpkafifaaGreat
